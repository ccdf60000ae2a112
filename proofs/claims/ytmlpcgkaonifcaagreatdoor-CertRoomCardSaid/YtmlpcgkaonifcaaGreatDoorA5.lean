import Derived.Test.YtmlpcgkaonifcaaGreatDoorA4
import Derived.Lib.ItoaNum
set_option linter.all false
set_option maxRecDepth 100000
set_option maxHeartbeats 8000000
namespace Go.Proofs.YtmlpcgkaonifcaaGreatDoor
open Go Go.VL
attribute [local simp] zbu zcZ zcp evPure opd uOf zaA St.put St.at getK binD binI binS binB nilD aggD zfv zf5 lookD lookR zcm rangeS Go.VL.nextD Go.VL.nextS zco zge zgb zfp zcv mkV zbf zaS zaR zaQ zcX zaO za8 zbt mapEff zdD ze5 Key.kk shiftI arith unD convD zdq loadD cellsAt fieldAddrD fieldD indexAddrD indexSlD arrAddr indexD sliceD cutD lenD minmaxD nilCheckD buildD fillD zbY zc2 zev setAll zcT zd9 zci zfs zch St.add zaw zbz rowsOf zdf zcx zad zac zaa zbx zc8 zaZ entry zbM zbQ valD zcl zcw zft zdb zdc zb0 zbK zal zaW zbh delAll effD St.effS zcE zaT zaG zcF zaU zaI zbV zaH zaz zbW zcC zbs zbU za5 zbS zbT zar mkD zcj zbD zbI zal zcr D.ids Op.operands Call.operands zbF makeIfD makeFuncD typeAssertD zf4 zdi zdj zfR zcn IntKind.bits zct zay List.take_of_length_le List.range_succ zcN zcc zcO zcI zbB zb1 zb3 zcJ zb5 zbc zb4 zb2 zg4 zcb zcL zaX zaK zcM zaY zaM zca zaL zaD zcR zcS zgB zab frzN frz1 zav zau St.frz St.frzS frzS fv za2 zbn zbo frzObS zat zan frz zbL zbk zbl zbN zb7 zce za6 St.norm St.lp St.only zax wkE wkO wkU Ob.under D.under zaj zak zcP zcd zcQ h4s zd1 zaC zbC List.zipIdx_cons List.zipIdx_nil zzC zzD Nat.zero_add
attribute [local irreducible] V G H HD HD2 zbg Eff CallP CallV EndOK Fun Ret FinOK LoopI LoopW EndW HR vs2 RN Cnd H4
def asc {β : Type} : List (List UInt8 × β) -> List UInt8 -> Option β
 | [], _ => none
 | (k, b) :: l, x => if x = k then some b else asc l x
def zer {β : Type} : List (List UInt8 × β) -> List UInt8 -> β -> List (List UInt8 × β)
 | [], x, b => [(x, b)]
 | (k, c) :: l, x, b => if x = k then (k, b) :: l else (k, c) :: zer l x b
theorem ziA {β : Type} (f : β -> List U) (x : List UInt8) : ∀ (l : List (List UInt8 × β)), zcv (l.map fun p => (Key.s p.1, f p.2)) (.s x) = (asc l x).map f
 | [] => rfl
 | (k, b) :: l => by
  simp only [zzC, zcv, asc, Key.s.injEq];split
  ·rfl
  ·exact ziA f x l
theorem zkb {β : Type} (f : β -> List U) (x : List UInt8) (b : β) : ∀ (l : List (List UInt8 × β)), zdD (l.map fun p => (Key.s p.1, f p.2)) (.s x) (f b) = (zer l x b).map fun p => (Key.s p.1, f p.2)
 | [] => rfl
 | (k, c) :: l => by
  simp only [zzC, zdD, zer, Key.s.injEq];split
  ·rfl
  ·simp only [zzC]; rw [zkb f x b l]
theorem zr8 {β : Type} (x y : List UInt8) (b : β) : ∀ (l : List (List UInt8 × β)), asc (zer l x b) y = if y = x then some b else asc l y
 | [] => by simp [zer, asc]
 | (k, c) :: l => by
  simp only [zer];split
  ·rename_i h;subst h;simp only [asc];split <;> rfl
  ·rename_i h;simp only [asc, zr8 x y b l];by_cases h1 : y = k
   ·subst h1; simp [Ne.symm h]
   ·simp [h1]
mutual
def ze6 (g : List UInt8 -> Option Int) (m : List UInt8 -> Option (Int × Int)) : Exp -> Int × Int
 | .mk op _ u s args =>
  if op = 0 then (u, 0)
  else if op = 1 then (match g s with | some u => (u, 0) | none => match m s with | some r => r | none => (0, 13))
  else match zgE g m args with
   | .error b => (0, b)
   | .ok l => if (zjh op l).2 = true then ((zjh op l).1, 0) else (0, 14)
def zgE (g : List UInt8 -> Option Int) (m : List UInt8 -> Option (Int × Int)) : List Exp -> Except Int (List Int)
 | [] => .ok []
 | e :: r => if (ze6 g m e).2 ≠ 0 then .error (ze6 g m e).2 else match zgE g m r with
  | .error b => .error b
  | .ok l => .ok ((ze6 g m e).1 :: l)
end
theorem zkd (g m) (e : Exp) : ze6 g m e = if e.op = 0 then (e.unit, 0)
  else if e.op = 1 then (match g e.s with | some u => (u, 0) | none => match m e.s with | some r => r | none => (0, 13))
  else match zgE g m e.args with
   | .error b => (0, b)
   | .ok l => if (zjh e.op l).2 = true then ((zjh e.op l).1, 0) else (0, 14) := by
 cases e with | mk op n u s args => rw [ze6]; rfl
theorem zk1 {g m} : ∀ {l : List Exp}, (∀ x ∈ l, (ze6 g m x).2 = 0) -> zgE g m l = .ok (l.map fun x => (ze6 g m x).1)
 | [], _ => by rw [zgE]; rfl
 | e :: r, h => by
  rw [zgE, if_neg (by simp [h e (by simp)]), zk1 fun x hx => h x (by simp [hx])];rfl
theorem zju {g m} : ∀ {l : List Exp} {i : Nat} {e : Exp}, l[i]? = some e -> (∀ x ∈ l.take i, (ze6 g m x).2 = 0) -> (ze6 g m e).2 ≠ 0 -> zgE g m l = .error (ze6 g m e).2
 | [], i, e, h, _, _ => by simp at h
 | a :: r, 0, e, h, _, h2 => by
  simp at h;subst h;rw [zgE, if_pos h2]
 | a :: r, i + 1, e, h, h1, h2 => by
  rw [zgE, if_neg (by simp [h1 a (by simp)]), zju (l := r) (i := i) (by simpa using h) (fun x hx => h1 x (by simp [hx])) h2]
mutual
def zgh (m : List UInt8 -> Bool) : Exp -> Bool
 | .mk op _ u s args =>
  if op = 0 then decide (u = 4)
  else if op = 1 then m s
  else if op = 2 \/ op = 3 \/ op = 6 \/ op = 7 then zej m args 0
  else if op = 4 then zej m args 0 && zej m args 1
  else if op = 13 then zej m args 1
  else false
def zej (m : List UInt8 -> Bool) : List Exp -> Nat -> Bool
 | [], _ => false
 | e :: _, 0 => zgh m e
 | _ :: r, n + 1 => zej m r n
end
theorem zqj (m) (e : Exp) : zgh m e = if e.op = 0 then decide (e.unit = 4)
  else if e.op = 1 then m e.s
  else if e.op = 2 \/ e.op = 3 \/ e.op = 6 \/ e.op = 7 then zej m e.args 0
  else if e.op = 4 then zej m e.args 0 && zej m e.args 1
  else if e.op = 13 then zej m e.args 1
  else false := by
 cases e with | mk op n u s args => rw [zgh]; rfl
abbrev LM := List (List UInt8 × Int × Int × Bool)
abbrev GM := List (List UInt8 × Int)
def zrs (g : GM) : List (Key × List U) := g.map fun p => (Key.s p.1, [U.int .i64 p.2])
def zv8 (m : LM) : List (Key × List U) := m.map fun p => (Key.s p.1, [U.int .i64 p.2.1, .int .i64 p.2.2.1, .bool p.2.2.2])
theorem znT (g : GM) (x : List UInt8) : zcv (zrs g) (.s x) = (asc g x).map fun u => [U.int .i64 u] := ziA (fun u : Int => [U.int .i64 u]) x g
theorem zuu (g : LM) (x : List UInt8) : zcv (zv8 g) (.s x) = (asc g x).map fun q => [U.int .i64 q.1, .int .i64 q.2.1, .bool q.2.2] := ziA (fun q : Int × Int × Bool => [U.int .i64 q.1, .int .i64 q.2.1, .bool q.2.2]) x g
def jU (g : GM) (m : LM) : U := .row [.map .s false (zrs g), .map .s true (zv8 m)] 0
def gF (g : GM) : List UInt8 -> Option Int := asc g
def mF (m : LM) : List UInt8 -> Option (Int × Int) := fun x => (asc m x).map fun q => (q.1, q.2.1)
def sF (m : LM) : List UInt8 -> Bool := fun x => ((asc m x).map fun q => q.2.2).getD false
theorem zdP {d : Nat} {e : Exp} (h : zbi (d + 1) e = true) : (e.args.length : Int) = zbX e.op /\ 0 <= e.op /\ e.op < 14 /\ (e.op ≠ 0 -> e.op ≠ 1 -> ∀ x ∈ e.args, zbi d x = true) := by
 rw [zbi, Bool.and_eq_true, decide_eq_true_eq] at h;obtain ⟨h1, h2⟩ := h;have h3 : 0 <= e.op /\ e.op < 14 := by
  unfold zbX at h1;split at h1
  ·omega
  ·split at h1
   ·omega
   ·split at h1
    ·omega
    ·split at h1
     ·omega
     ·omega
 refine ⟨h1, h3.1, h3.2, fun ha hb x hx => ?_⟩;rw [if_neg ha] at h2;split at h2
 ·cases h2
 ·simp only [if_neg hb, Bool.and_eq_true, Bool.not_eq_true', List.any_eq_false, Bool.not_eq_true] at h2;have := h2.2 x hx;simpa using this
theorem znx (g : GM) (m : LM) : ∀ (d : Nat) (e : Exp), zbi d e = true -> Fun Tryz.prog 150 [.u (jU g m), zdo e] (· = .tup [.u (.int .i64 (ze6 (gF g) (mF m) e).1), .u (.int .i64 (ze6 (gF g) (mF m) e).2)])
 | 0, e, h => by simp [zbi] at h
 | d + 1, e, h => by
  obtain ⟨h1, h2, h3, h4⟩ := zdP h;have hg := znT g e.s;have hm := zuu m e.s;by_cases h0 : e.op = 0
  ·rw [zkd, if_pos h0];refine Fun.run Tryz.func150 Tryz.ntmps150 Tryz.results150 rfl (by simp) fun Γ hn => ?_; simp only [zzE, zzC, zzD];simp only [zdo, jU]
   repeat' (first
  | (refine zaf rfl ?_; simp [h0])
  | fail)
   (refine Pst.of ?_; simp)
  by_cases hnm : e.op = 1
  ·rw [zkd, if_neg h0, if_pos hnm];refine Fun.run Tryz.func150 Tryz.ntmps150 Tryz.results150 rfl (by simp) fun Γ hn => ?_; simp only [zzE, zzC, zzD];simp only [zdo, jU];cases hga : asc g e.s with
   | some u =>
    rw [hga] at hg;simp only [Option.map_some] at hg
    repeat' (first
  | (refine zaf rfl ?_; simp [h0, hnm, hg])
  | (refine ⟨hC _ (by kernel_rfl), hk _ (zdG 8 _ _ _ ?_)⟩; clear hC hk C k; simp [h0, hnm, hg])
  | (refine zdv rfl (by kernel_rfl) (by first | (simp [hn] <;> omega) | fail) fun C k hC hk => ?_; simp [h0, hnm, hg])
  | fail)
    (refine Pst.of ?_; simp)
    simp [gF, hga]
   | none =>
    rw [hga] at hg;simp only [Option.map_none] at hg;cases hma : asc m e.s with
    | some q =>
     rw [hma] at hm;simp only [Option.map_some] at hm
     repeat' (first
  | (refine zaf rfl ?_; simp [h0, hnm, hg, hm])
  | (refine ⟨hC _ (by kernel_rfl), hk _ (zdG 8 _ _ _ ?_)⟩; clear hC hk C k; simp [h0, hnm, hg, hm])
  | (refine zdv rfl (by kernel_rfl) (by first | (simp [hn] <;> omega) | fail) fun C k hC hk => ?_; simp [h0, hnm, hg, hm])
  | fail)
     (refine Pst.of ?_; simp)
     simp [gF, hga, mF, hma]
    | none =>
     rw [hma] at hm;simp only [Option.map_none] at hm
     repeat' (first
  | (refine zaf rfl ?_; simp [h0, hnm, hg, hm])
  | (refine ⟨hC _ (by kernel_rfl), hk _ (zdG 8 _ _ _ ?_)⟩; clear hC hk C k; simp [h0, hnm, hg, hm])
  | (refine zdv rfl (by kernel_rfl) (by first | (simp [hn] <;> omega) | fail) fun C k hC hk => ?_; simp [h0, hnm, hg, hm])
  | fail)
     (refine Pst.of ?_; simp)
     simp [gF, hga, mF, hma]
  rw [zkd, if_neg h0, if_neg hnm];refine Fun.run Tryz.func150 Tryz.ntmps150 Tryz.results150 rfl (by simp) fun Γ hn => ?_; simp only [zzE, zzC, zzD];simp only [zdo, jU];have hr := h4 h0 hnm
  repeat' (first
  | (refine zaf rfl ?_; simp [h0, hnm])
  | fail)
  refine zmt _ (Wk.own 10 3 1 (by decide) rfl) ?_;simp [St.own];refine zbZ (α := { p : Nat × List Int // p.1 <= e.args.length /\ p.2 = (e.args.take p.1).map (fun x => (ze6 (gF g) (mF m) x).1) /\ ∀ x ∈ e.args.take p.1, (ze6 (gF g) (mF m) x).2 = 0 }) [0, 3, 53, 54]
   (fun p => [(10, .vec 1 p.1.2.length), (55, .u (.int .i64 p.1.1))]) (fun p => [(1, .vec 3 1 (rowsD (p.1.2.map fun n => [U.int .i64 n]))), (0, .box [.u (.int .i64 e.op), .u (.int .i64 e.n), .u (.int .i64 e.unit), .u (.str e.s), .u (.sl (e.args.map Exp.row))])]) 2
   (fun p => e.args.length - p.1.1) ⟨(0, []), by simp, by simp, by simp⟩ ?_ ?_
  ·exact (Wk.zdz (by simp [hn] <;> grind))
  rintro ⟨⟨i, acc⟩, hi, hacc, hb⟩;simp only at hi hacc hb;simp;rcases hx : e.args[i]? with _ | x
  ·have hge : e.args.length <= i := by simpa using hx
   rw [List.take_of_length_le hge] at hacc hb;have hok := zk1 hb;rw [<- hacc] at hok;have hal : (acc.length : Int) = zbX e.op := by rw [hacc]; simpa using h1
   have h5 := ztJ e.op acc (by omega) hal;simp only [ints] at h5;generalize hcb : zjh e.op acc = cb at h5;obtain ⟨c1, c2⟩ := cb
   repeat' (first
  | (refine Cnd.of (fun hc => ?_) (fun hc => ?_) <;> (try (exfalso; omega)) <;> (try simp [hx, h0, hnm]))
  | (refine zaf rfl ?_; simp [hx, h0, hnm])
  | (refine CallP.f2 rfl (h5) (by first | simp [hx, h0, hnm] <;> rfl | fail) ?_; simp [hx, h0, hnm])
  | fail)
   all_goals
    (refine Pst.of ?_; simp)
   all_goals (rw [hok]; simp_all; done)
  ·have hlt : i < e.args.length := (List.getElem?_eq_some_iff.1 hx).1;have h5 := znx g m d x (hr x (List.mem_of_getElem? hx));simp only [zdo, jU] at h5;have hal : acc.length = i := by rw [hacc]; simp; omega
   have h3a : e.args.length <= 3 := by
    have : zbX e.op ≤ 3 := by unfold zbX; repeat' split
                              all_goals omega
    omega
   have her := fun h => zju (g := gF g) (m := mF m) hx hb h;generalize hun : ze6 (gF g) (mF m) x = un at h5 her;obtain ⟨u, er⟩ := un
   repeat' (first
  | (refine Cnd.of (fun hc => ?_) (fun hc => ?_) <;> (try (exfalso; omega)) <;> (try simp [hx, x.row_eq, h0, hnm]))
  | (refine zaf rfl ?_; simp [hx, x.row_eq, h0, hnm])
  | (refine And.intro (by omega) ?_)
  | (refine CallP.f2 rfl (h5) (by first | simp [hx, x.row_eq, h0, hnm] <;> rfl | fail) ?_; simp [hx, x.row_eq, h0, hnm])
  | fail)
   ·(refine Pst.of ?_; simp)
    rw [her (by simpa using (by assumption : ¬ er = 0))];simp
   ·skip
    refine LoopW.next ⟨(i + 1, acc ++ [u]), (by omega : i + 1 <= e.args.length), (?_ : acc ++ [u] = _), ?_⟩ (by simp; omega) ?_
    ·rw [List.take_succ_eq_append_getElem hlt, List.map_append, <- hacc, (List.getElem?_eq_some_iff.1 hx).2];simp [hun]
    ·exact zbd hx hb (by simp_all)
    ·exact (Wk.ren ((fun i => if i = 1 then 4 else i)) rfl (by first | (simp [hn]; done) | (intro i hi; rw [hn] at hi; constructor <;> (try simp) <;> (try (intro _)) <;> omega)) (by simp [zi6, St.lp, zax, zaa, getK, zac, zad, D.under, D.le, D.ren] <;> (try (intros; simp_all; done)) <;> (try omega)) (by simp [wkR, St.lp, zaa, getK, zac, zad, obR, leU, zcu, za7, Ob.under, D.under, D.le, D.ren] <;> (try (intros; simp_all; done)) <;> (try omega)) (by simp))
theorem zeN (g : GM) (m : LM) : ∀ (d : Nat) (e : Exp), zbi d e = true -> Fun Tryz.prog 147 [.u (jU g m), zdo e] (· = .u (.bool (zgh (sF m) e)))
 | 0, e, h => by simp [zbi] at h
 | d + 1, e, h => by
  obtain ⟨h1, h2, h3, h4⟩ := zdP h;rw [zqj];have hm := zuu m e.s;by_cases h0 : e.op = 0
  ·rw [if_pos h0];refine Fun.run Tryz.func147 Tryz.ntmps147 Tryz.results147 rfl (by simp) fun Γ hn => ?_; simp only [zzE, zzC, zzD];simp only [zdo, jU]
   repeat' (first
  | (refine zaf rfl ?_; simp [h0])
  | fail)
   (refine Pst.of ?_; simp)
  rw [if_neg h0];by_cases hnm : e.op = 1
  ·rw [if_pos hnm];cases hma : asc m e.s with
   | some q =>
    rw [hma] at hm;simp only [Option.map_some] at hm;refine Fun.run Tryz.func147 Tryz.ntmps147 Tryz.results147 rfl (by simp) fun Γ hn => ?_; simp only [zzE, zzC, zzD];simp only [zdo, jU]
    repeat' (first
  | (refine zaf rfl ?_; simp [h0, hnm, hm])
  | (refine ⟨hC _ (by kernel_rfl), hk _ (zdG 8 _ _ _ ?_)⟩; clear hC hk C k; simp [h0, hnm, hm])
  | (refine zdv rfl (by kernel_rfl) (by first | (simp [hn] <;> omega) | fail) fun C k hC hk => ?_; simp [h0, hnm, hm])
  | fail)
    (refine Pst.of ?_; simp)
    simp [sF, hma]
   | none =>
    rw [hma] at hm;simp only [Option.map_none] at hm;refine Fun.run Tryz.func147 Tryz.ntmps147 Tryz.results147 rfl (by simp) fun Γ hn => ?_; simp only [zzE, zzC, zzD];simp only [zdo, jU]
    repeat' (first
  | (refine zaf rfl ?_; simp [h0, hnm, hm])
  | (refine ⟨hC _ (by kernel_rfl), hk _ (zdG 8 _ _ _ ?_)⟩; clear hC hk C k; simp [h0, hnm, hm])
  | (refine zdv rfl (by kernel_rfl) (by first | (simp [hn] <;> omega) | fail) fun C k hC hk => ?_; simp [h0, hnm, hm])
  | fail)
    (refine Pst.of ?_; simp)
    simp [sF, hma]
  rw [if_neg hnm];have hr := h4 h0 hnm;by_cases hA : e.op = 2 \/ e.op = 3 \/ e.op = 6 \/ e.op = 7
  ·rw [if_pos hA];have hl : e.args.length = 2 := by
    rcases hA with ha | ha | ha | ha <;> rw [ha] at h1 <;> simp [zbX] at h1 <;> omega
   obtain ⟨a, b, hab⟩ : ∃ a b, e.args = [a, b] := by
    match hq : e.args, hl with
    | [a, b], _ => exact ⟨a, b, rfl⟩
   have h5 := zeN g m d a (hr a (by simp [hab]));simp only [zdo, jU] at h5;rw [hab, zej];rcases hA with ha | ha | ha | ha
   all_goals
    refine Fun.run Tryz.func147 Tryz.ntmps147 Tryz.results147 rfl (by simp) fun Γ hn => ?_; simp only [zzE, zzC, zzD];simp only [zdo, jU]
    repeat' (first
  | (refine zaf rfl ?_; simp [ha, hab, a.row_eq, b.row_eq])
  | (refine CallP.f2 rfl (h5) (by first | simp [ha, hab, a.row_eq, b.row_eq] <;> rfl | fail) ?_; simp [ha, hab, a.row_eq, b.row_eq])
  | fail)
    (refine Pst.of ?_; simp)
  rw [if_neg hA];by_cases hB : e.op = 4
  ·rw [if_pos hB];have hl : e.args.length = 2 := by rw [hB] at h1; simp [zbX] at h1; omega
   obtain ⟨a, b, hab⟩ : ∃ a b, e.args = [a, b] := by
    match hq : e.args, hl with
    | [a, b], _ => exact ⟨a, b, rfl⟩
   have h5 := zeN g m d a (hr a (by simp [hab]));have h6 := zeN g m d b (hr b (by simp [hab]));simp only [zdo, jU] at h5 h6;rw [hab, zej, zej, zej];generalize zgh (sF m) a = x1 at h5 ⊢;generalize zgh (sF m) b = x2 at h6 ⊢;refine Fun.run Tryz.func147 Tryz.ntmps147 Tryz.results147 rfl (by simp) fun Γ hn => ?_; simp only [zzE, zzC, zzD];simp only [zdo, jU]
   repeat' (first
  | (refine Cnd.of (fun hc => ?_) (fun hc => ?_) <;> (try (exfalso; omega)) <;> (try simp [hB, hab, a.row_eq, b.row_eq]))
  | (refine zaf rfl ?_; simp [hB, hab, a.row_eq, b.row_eq])
  | ((first | refine CallP.f2 rfl (h5) (by first | simp [hB, hab, a.row_eq, b.row_eq] <;> rfl | fail) ?_ | refine CallP.f2 rfl (h6) (by first | simp [hB, hab, a.row_eq, b.row_eq] <;> rfl | fail) ?_ | fail); simp [hB, hab, a.row_eq, b.row_eq])
  | fail)
   all_goals
    (refine Pst.of ?_; simp)
   all_goals (simp_all; done)
  rw [if_neg hB];by_cases hC : e.op = 13
  ·rw [if_pos hC];have hl : e.args.length = 3 := by rw [hC] at h1; simp [zbX] at h1; omega
   obtain ⟨a, b, c, hab⟩ : ∃ a b c, e.args = [a, b, c] := by
    match hq : e.args, hl with
    | [a, b, c], _ => exact ⟨a, b, c, rfl⟩
   have h5 := zeN g m d b (hr b (by simp [hab]));simp only [zdo, jU] at h5;rw [hab, zej, zej];refine Fun.run Tryz.func147 Tryz.ntmps147 Tryz.results147 rfl (by simp) fun Γ hn => ?_; simp only [zzE, zzC, zzD];simp only [zdo, jU]
   repeat' (first
  | (refine zaf rfl ?_; simp [hC, hab, a.row_eq, b.row_eq, c.row_eq])
  | (refine CallP.f2 rfl (h5) (by first | simp [hC, hab, a.row_eq, b.row_eq, c.row_eq] <;> rfl | fail) ?_; simp [hC, hab, a.row_eq, b.row_eq, c.row_eq])
  | fail)
   (refine Pst.of ?_; simp)
  rw [if_neg hC];have hD : ¬ e.op = 2 /\ ¬ e.op = 3 /\ ¬ e.op = 6 /\ ¬ e.op = 7 := by omega
  refine Fun.run Tryz.func147 Tryz.ntmps147 Tryz.results147 rfl (by simp) fun Γ hn => ?_; simp only [zzE, zzC, zzD];simp only [zdo, jU]
  repeat' (first
  | (refine zaf rfl ?_; simp [h0, hnm, hB, hC, hD.1, hD.2.1, hD.2.2.1, hD.2.2.2])
  | fail)
  (refine Pst.of ?_; simp)
theorem zu4 (l : Let) : Fun Tryz.prog 149 (zth l :: [].map .u) (· = .u (.bool (!zbi 12 l.body))) := by
 have h1 := zd0 l.body;simp only [zth, zzD, zdo] at h1 ⊢;refine Fun.run Tryz.func149 Tryz.ntmps149 Tryz.results149 rfl (by simp) fun Γ hn => ?_
 repeat' (first
  | (refine zaf rfl ?_; simp)
  | (refine CallP.f2 rfl (h1) (by first | simp <;> rfl | fail) ?_; simp)
  | fail)
 (refine Pst.of ?_; simp)
def zei (l : List Var) : U := .sl (l.map fun v => [.str v.name, .int .i64 v.unit, .int .i64 v.n])
def gOf (names : List Var) : GM := names.foldl (fun g v => if asc g v.name = none then zer g v.name v.unit else g) []
def mOf (g : GM) (lets : List Let) : LM := lets.foldl (fun m l => zer m l.name ((ze6 (gF g) (mF m) l.body).1, (ze6 (gF g) (mF m) l.body).2, zgh (sF m) l.body)) []
def zh9 (v : Var) : Bool := decide (0 <= v.unit) && decide (v.unit < 5)
def zdI (lets : List Let) (e : Exp) : Bool := decide (lets.length <= 20) && zbi 12 e && !lets.any (fun l => !zbi 12 l.body)
def okJ (lets : List Let) (names : List Var) (e : Exp) : Bool := zdI lets e && names.all zh9
def zri (lets : List Let) (names : List Var) (e : Exp) : D := if okJ lets names e = true then .tup [.u (jU (gOf names) (mOf (gOf names) lets)), .u (.bool true)] else .tup [.u (.oth (.pointer none)), .u (.bool false)]
theorem zkY (g : GM) (x : List UInt8) (u : Int) : zdD (zrs g) (.s x) [U.int .i64 u] = zrs (zer g x u) := zkb (fun u : Int => [U.int .i64 u]) x u g
theorem zhI (g : LM) (x : List UInt8) (u e : Int) (b : Bool) : zdD (zv8 g) (.s x) [U.int .i64 u, .int .i64 e, .bool b] = zv8 (zer g x (u, e, b)) := zkb (fun q : Int × Int × Bool => [U.int .i64 q.1, .int .i64 q.2.1, .bool q.2.2]) x (u, e, b) g
theorem zhs {α β : Type} (f : β -> α -> β) (b : β) {l : List α} {i : Nat} {x : α} (h : l[i]? = some x) : (l.take (i + 1)).foldl f b = f ((l.take i).foldl f b) x := by
 obtain ⟨hi, rfl⟩ := List.getElem?_eq_some_iff.1 h;rw [List.take_succ_eq_append_getElem hi, List.foldl_append];rfl
theorem ztu {names : List Var} {i : Nat} {v : Var} (h : names[i]? = some v) : gOf (names.take (i + 1)) = if asc (gOf (names.take i)) v.name = none then zer (gOf (names.take i)) v.name v.unit else gOf (names.take i) := zhs _ _ h
theorem zs5 {g : GM} {lets : List Let} {i : Nat} {l : Let} (h : lets[i]? = some l) : mOf g (lets.take (i + 1)) = zer (mOf g (lets.take i)) l.name ((ze6 (gF g) (mF (mOf g (lets.take i))) l.body).1, (ze6 (gF g) (mF (mOf g (lets.take i))) l.body).2, zgh (sF (mOf g (lets.take i))) l.body) := zhs _ _ h
theorem zrh (lets : List Let) (names : List Var) (e : Exp) : Fun Tryz.prog 146 [.u (zaV lets), .u (zei names), zdo e] (· = zri lets names e) := by
 have h1 := zd0 e;have h2 := zfj lets 149 [] _ (fun x _ => zu4 x) (by simp) (fun _ => rfl) (fun _ => rfl);simp only [zzD, zaV, zdo] at h1 h2;generalize hre : zbi 12 e = re at h1;generalize hrl : (lets.any fun l => !zbi 12 l.body) = rl at h2;have hok0 : okJ lets names e = (decide (lets.length <= 20) && re && !rl && names.all zh9) := by rw [okJ, zdI, hre, hrl]
 have hre' := hre;have hrl' := hrl;clear hre hrl;unfold zri;generalize okJ lets names e = K at hok0 ⊢;refine Fun.runW Tryz.func146 Tryz.ntmps146 rfl (by simp) fun Γ hn => ?_; simp only [zzE, zzC, zzD];simp only [zdo, zaV, zei];refine zg3 (x := 0) rfl fun hl0 => ?_;refine zg3 (x := 1) rfl fun hl1 => ?_;simp only [List.length_map] at hl0 hl1
 repeat' (first
  | (refine Cnd.of (fun hc => ?_) (fun hc => ?_) <;> (try (exfalso; omega)) <;> (try simp))
  | (refine zaf rfl ?_; simp)
  | ((first | refine CallP.f2 rfl (h1) (by first | simp <;> rfl | fail) ?_ | refine CallP.f2 rfl (h2) (by first | simp <;> rfl | fail) ?_ | fail); simp)
  | fail)
 all_goals try (refine EndW.here ?_; have hKf : K = false := (by first | (rw [hok0]; clear h1 h2 hok0 hre' hrl'; simp; intros; simp_all; done) | (rw [hok0]; clear h1 h2 hok0 hre' hrl'; simp; intros; omega) | fail); subst hKf; (refine EndOK.val (.inr rfl) ?_; simp [Tryz.results146]); done)
 refine zbZ (α := { i : Nat // i <= names.length /\ ∀ v ∈ names.take i, zh9 v = true }) [0, 8, 33, 34] (fun i => [(35, .u (.int .i64 i.1))])
  (fun i => [(3, .box [.mp 1, .mp 2]), (2, .map .s true []), (1, .map .s false (zjY (zrs (gOf (names.take i.1))))), (0, .box [.u (.int .i64 e.op), .u (.int .i64 e.n), .u (.int .i64 e.unit), .u (.str e.s), .u (.sl (e.args.map Exp.row))])]) 4
  (fun i => names.length - i.1) ⟨0, by omega, by simp⟩ ?_ ?_
 ·exact (Wk.zdz (by simp [hn, gOf, zrs, zbf, Ob.under] <;> grind))
 rintro ⟨i, hi, hb⟩;simp;rcases hx : names[i]? with _ | v
 ·have hge : names.length <= i := by simpa using hx
  obtain rfl : i = names.length := by omega
  rw [List.take_length] at hb;have hall : names.all zh9 = true := by simpa [List.all_eq_true] using hb
  repeat' (first
  | (refine zaf rfl ?_; simp [hx])
  | fail)
  refine zbZ (α := { i : Nat // i <= lets.length }) [8, 68, 69] (fun i => [(70, .u (.int .i64 i.1))])
   (fun i => [(3, .box [.mp 1, .mp 2]), (2, .map .s true (zjY (zv8 (mOf (gOf names) (lets.take i.1))))), (1, .map .s false (zjY (zrs (gOf names)))), (0, .box [.u (.int .i64 e.op), .u (.int .i64 e.n), .u (.int .i64 e.unit), .u (.str e.s), .u (.sl (e.args.map Exp.row))])]) 4
   (fun i => lets.length - i.1) ⟨0, by omega⟩ ?_ ?_
  ·exact (Wk.zdz (by simp [hn, mOf, zv8, zbf, Ob.under] <;> grind))
  rintro ⟨k, hk0⟩;simp;rcases hy : lets[k]? with _ | l
  ·have hgk : lets.length <= k := by simpa using hy
   obtain rfl : k = lets.length := by omega
   obtain rfl : K = true := by
    rw [hok0, hall];have : lets.length <= 20 := by omega
    clear h1 h2;simp_all
   repeat' (first
  | (refine zaf rfl ?_; simp [hy])
  | fail)
   (refine EndW.frzN 2 ?_; simp [del])
   (refine EndW.frzB 3 ?_; simp [frzB, zav, zau, St.frzS, frzS, fv, za2, zbn, zbo, frzObS, zat, zan, del])
   refine EndW.here ?_
   (refine EndOK.val (.inr rfl) ?_; simp [Tryz.results146])
   rfl
  ·have hltk : k < lets.length := (List.getElem?_eq_some_iff.1 hy).1;have hsu := zs5 (g := gOf names) hy;have hrl : zbi 12 l.body = true := by
    have h7 : (lets.any fun l => !zbi 12 l.body) = false := by rw [hrl']; assumption
    rw [List.any_eq_false] at h7;simpa using h7 l (List.mem_of_getElem? hy)
   have h5 := znx (gOf names) (mOf (gOf names) (lets.take k)) 12 l.body hrl;have h6 := zeN (gOf names) (mOf (gOf names) (lets.take k)) 12 l.body hrl;simp only [zdo, jU] at h5 h6
   repeat' (first
  | (refine Cnd.of (fun hc => ?_) (fun hc => ?_) <;> (try (exfalso; omega)) <;> (try simp [hy, zhI]))
  | (refine zaf rfl ?_; simp [hy, zhI])
  | (refine And.intro (by omega) ?_)
  | (refine ⟨hC _ (by kernel_rfl), hk _ (zdG 8 _ _ _ ?_)⟩; clear hC hk C k; simp [hy, zhI])
  | (refine zdv rfl (by kernel_rfl) (by first | (simp [hn] <;> omega) | fail) fun C k hC hk => ?_; simp [hy, zhI])
  | (refine zcB rfl ?_; simp [hy, zhI])
  | (refine zbP rfl ?_; simp [hy, zhI])
  | ((first | refine CallP.f2 rfl (h5) (by first | simp [hy, zhI] <;> rfl | fail) ?_ | refine CallP.f2 rfl (h6) (by first | simp [hy, zhI] <;> rfl | fail) ?_ | fail); simp [hy, zhI])
  | ((first | refine CallV.f2 rfl (h5) (by first | simp [hy, zhI] <;> rfl | fail) ?_ | refine CallV.f2 rfl (h6) (by first | simp [hy, zhI] <;> rfl | fail) ?_ | fail); simp [hy, zhI])
  | fail)
   refine LoopW.next ⟨k + 1, by omega⟩ (by simp; omega) ?_
   exact (Wk.zdz (by simp [hn, hsu] <;> grind))
 ·have hlt : i < names.length := (List.getElem?_eq_some_iff.1 hx).1;have hg := znT (gOf (names.take i)) v.name;have hsu := ztu hx;have hok : zh9 v = (decide (0 <= v.unit) && decide (v.unit < 5)) := rfl;have hbad : zh9 v = false -> names.all zh9 = false := fun h => by
   rw [List.all_eq_false];exact ⟨v, List.mem_of_getElem? hx, by simp [h]⟩
  cases hga : asc (gOf (names.take i)) v.name with
  | some u =>
   rw [hga] at hg hsu;simp only [Option.map_some] at hg
   repeat' (first
  | (refine Cnd.of (fun hc => ?_) (fun hc => ?_) <;> (try (exfalso; omega)) <;> (try simp [hx, hg]))
  | (refine zaf rfl ?_; simp [hx, hg])
  | (refine And.intro (by omega) ?_)
  | (refine ⟨hC _ (by kernel_rfl), hk _ (zdG 8 _ _ _ ?_)⟩; clear hC hk C k; simp [hx, hg])
  | (refine zdv rfl (by kernel_rfl) (by first | (simp [hn] <;> omega) | fail) fun C k hC hk => ?_; simp [hx, hg])
  | fail)
   all_goals first
    | (refine LoopW.next ⟨i + 1, by omega, zbd hx hb (by rw [hok]; simp; omega)⟩ (by simp; omega) ?_; exact (Wk.zdz (by simp [hn, hsu] <;> grind)))
    | (refine EndW.here ?_; have hKf : K = false := (by first | (rw [hok0, hbad (by rw [hok]; simp; omega)]; simp; done) | fail); subst hKf; (refine EndOK.val (.inr rfl) ?_; simp [Tryz.results146]))
  | none =>
   rw [hga] at hg hsu;simp only [Option.map_none] at hg
   repeat' (first
  | (refine Cnd.of (fun hc => ?_) (fun hc => ?_) <;> (try (exfalso; omega)) <;> (try simp [hx, hg, zkY]))
  | (refine zaf rfl ?_; simp [hx, hg, zkY])
  | (refine And.intro (by omega) ?_)
  | (refine ⟨hC _ (by kernel_rfl), hk _ (zdG 8 _ _ _ ?_)⟩; clear hC hk C k; simp [hx, hg, zkY])
  | (refine zdv rfl (by kernel_rfl) (by first | (simp [hn] <;> omega) | fail) fun C k hC hk => ?_; simp [hx, hg, zkY])
  | fail)
   all_goals first
    | (refine LoopW.next ⟨i + 1, by omega, zbd hx hb (by rw [hok]; simp; omega)⟩ (by simp; omega) ?_; exact (Wk.zdz (by simp [hn, hsu] <;> grind)))
    | (refine EndW.here ?_; have hKf : K = false := (by first | (rw [hok0, hbad (by rw [hok]; simp; omega)]; simp; done) | fail); subst hKf; (refine EndOK.val (.inr rfl) ?_; simp [Tryz.results146]))
theorem zr3 (c : UInt8) : Fun Tryz.prog 113 [.u (.int .u8 c.toNat)] (· = .u (.bool (zc4 c))) := by
 unfold zc4;refine Fun.run Tryz.func113 Tryz.ntmps113 Tryz.results113 rfl (by simp) fun Γ hn => ?_
 repeat' (first
  | (refine Cnd.of (fun hc => ?_) (fun hc => ?_) <;> (try (exfalso; omega)) <;> (try simp))
  | (refine zaf rfl ?_; simp)
  | fail)
 all_goals
  (refine Pst.of ?_; simp)
 all_goals first | omega | (rw [Bool.eq_iff_iff]; simp; omega) | (simp; omega)
theorem zqP (c : UInt8) : Fun Tryz.prog 133 [.u (.int .u8 c.toNat)] (· = .u (.bool (zdR c))) := by
 unfold zdR;refine Fun.run Tryz.func133 Tryz.ntmps133 Tryz.results133 rfl (by simp) fun Γ hn => ?_
 repeat' (first
  | (refine Cnd.of (fun hc => ?_) (fun hc => ?_) <;> (try (exfalso; omega)) <;> (try simp))
  | (refine zaf rfl ?_; simp)
  | ((first | refine CallP.f2 rfl (zeW c) (by first | simp <;> rfl | fail) ?_ | refine CallP.f2 rfl (zfN c) (by first | simp <;> rfl | fail) ?_ | fail); simp)
  | fail)
 all_goals
  (refine Pst.of ?_; simp)
 all_goals simp_all
theorem zez (p : UInt8 -> Bool) (l : List UInt8) : zdu p l <= l.length := by
 unfold zdu;exact (List.takeWhile_sublist p).length_le
theorem zqd {p : UInt8 -> Bool} {l : List UInt8} (h : zdu p l = l.length) : ∀ c ∈ l, p c = true := by
 have : l.takeWhile p = l := (List.takeWhile_sublist p).eq_of_length h;intro c hc;rw [<- this] at hc;exact List.all_eq_true.1 (List.all_takeWhile (l := l) (p := p)) c hc
theorem zoN (s : List UInt8) (hl : s.length <= 1000000) : Fun Tryz.prog 134 [.u (.str s)] (· = .tup [.u (.int .i64 ((zhi s).getD 0)), .u (.bool (zhi s).isSome)]) := by
 have hsp := zgH s hl 75 zb8 (fun c _ => zfN c) (by simp);unfold zhi;cases s with
 | nil =>
  refine Fun.run Tryz.func134 Tryz.ntmps134 Tryz.results134 rfl (by simp) fun Γ hn => ?_
  repeat' (first
  | (refine zaf rfl ?_; simp)
  | fail)
  all_goals
   (refine Pst.of ?_; simp)
 | cons c s =>
  by_cases h1 : zdu zb8 (c :: s) = (c :: s).length
  case neg =>
   rw [if_pos (.inr (.inl h1))];have h1' : ¬ (zdu zb8 (c :: s) : Int) = s.length + 1 := by simp at h1; omega
   refine Fun.run Tryz.func134 Tryz.ntmps134 Tryz.results134 rfl (by simp) fun Γ hn => ?_
   repeat' (first
  | (refine zaf rfl ?_; simp [h1'])
  | (refine CallP.f2 rfl (hsp) (by first | simp [h1'] <;> rfl | fail) ?_; simp [h1'])
  | fail)
   all_goals
    (refine Pst.of ?_; simp)
  have h1' : (zdu zb8 (c :: s) : Int) = s.length + 1 := by simp at h1; omega
  by_cases h2 : c.toNat = 48 /\ s ≠ []
  ·rw [if_pos (.inr (.inr (.inl ⟨by have := h2.1; simp; exact UInt8.toNat_inj.1 this, by simp; intro _; exact h2.2⟩)))];have h2b := h2.1;have h2a := h2.2;refine Fun.run Tryz.func134 Tryz.ntmps134 Tryz.results134 rfl (by simp) fun Γ hn => ?_
   repeat' (first
  | (refine zaf rfl ?_; simp [h1', h2a, h2b])
  | (refine CallP.f2 rfl (hsp) (by first | simp [h1', h2a, h2b] <;> rfl | fail) ?_; simp [h1', h2a, h2b])
  | fail)
   all_goals
    (refine Pst.of ?_; simp)
  have h2' : c.toNat = 48 -> s = [] := fun h => by
   by_cases hs : s = []
   ·exact hs
   ·exact absurd ⟨h, hs⟩ h2
  by_cases h3 : 13 < (c :: s).length
  ·rw [if_pos (.inr (.inr (.inr h3)))];have h3' : 13 < (s.length : Int) + 1 := by simp at h3; omega
   have hne : s ≠ [] := fun e => by rw [e] at h3; simp at h3
   have h2'' : ¬ c.toNat = 48 := fun h => hne (h2' h);refine Fun.run Tryz.func134 Tryz.ntmps134 Tryz.results134 rfl (by simp) fun Γ hn => ?_
   repeat' (first
  | (refine Cnd.of (fun hc => ?_) (fun hc => ?_) <;> (try (exfalso; omega)) <;> (try simp [h1', h2'', h3']))
  | (refine zaf rfl ?_; simp [h1', h2'', h3'])
  | (refine CallP.f2 rfl (hsp) (by first | simp [h1', h2'', h3'] <;> rfl | fail) ?_; simp [h1', h2'', h3'])
  | fail)
   all_goals
    (refine Pst.of ?_; simp)
  have hall := zqd h1;rw [if_neg (by
   simp only [not_or];refine ⟨by simp, fun h => h h1, fun h => ?_, h3⟩;have hc48 : c = 48 := by have := h.1; simpa using this
   have := h2' (by rw [hc48]; rfl);rw [this, hc48] at h;exact h.2 rfl)]
  have h3' : ¬ 13 < (s.length : Int) + 1 := by simp at h3; omega
  have hval : ∀ k, k <= (c :: s).length -> 0 <= zcs ((c :: s).take k) /\ zcs ((c :: s).take k) < 10 ^ 13 := fun k hk => by
   have h4 := zgW k ((c :: s).take k) (by simp; simp at hk; omega) (fun x hx => hall x (List.mem_of_mem_take hx));have : (10 : Int) ^ k <= 10 ^ 13 := by
    have := Nat.pow_le_pow_right (n := 10) (by omega) (show k <= 13 by simp at h3 hk; omega)
    exact_mod_cast this
   omega
  have hloop : ∀ (hw : c.toNat = 48 -> s = []), Fun Tryz.prog 134 [.u (.str (c :: s))] (· = .tup [.u (.int .i64 ((if 1099511627776 < zcs (c :: s) then none else some (zcs (c :: s)) : Option Int).getD 0)), .u (.bool (if 1099511627776 < zcs (c :: s) then none else some (zcs (c :: s)) : Option Int).isSome)]) := fun hw => by
   by_cases h48 : c.toNat = 48
   ·have h48' : (c.toNat : Int) = 48 := by omega
    have hc48 : (c = 48) = True := eq_true (UInt8.toNat_inj.1 h48);have hs0 : (s = []) = True := eq_true (hw h48);refine Fun.run Tryz.func134 Tryz.ntmps134 Tryz.results134 rfl (by simp) fun Γ hn => ?_
    repeat' (first
  | (refine zaf rfl ?_; simp [h1', h3', h48', hc48, hs0])
  | (refine CallP.f2 rfl (hsp) (by first | simp [h1', h3', h48', hc48, hs0] <;> rfl | fail) ?_; simp [h1', h3', h48', hc48, hs0])
  | fail)
    refine zc7 (α := { i : Nat // i <= (c :: s).length }) [0, 30] (fun i => [(4, .u (.int .i64 (zcs ((c :: s).take i.1)))), (31, .u (.int .i64 i.1))]) (fun i => (c :: s).length - i.1) ⟨0, by omega⟩ ?_ ?_
    ·exact (Wk.zdz (by simp [hn, zcs] <;> grind))
    rintro ⟨i, hi⟩;simp;rcases hx : (c :: s)[i]? with _ | a
    ·have hge : (c :: s).length <= i := by simpa using hx
     obtain rfl : i = (c :: s).length := by omega
     rw [List.take_length];have hge2 : ¬ ((c :: s).length : Int) < s.length + 1 := by simp
     by_cases hb : 1099511627776 < zcs (c :: s)
     ·repeat' (first
  | (refine zaf rfl ?_; simp [hb, hge2])
  | fail)
      (refine Pst.of ?_; simp)
      try simp [hb]
     ·repeat' (first
  | (refine zaf rfl ?_; simp [hb, hge2])
  | fail)
      (refine Pst.of ?_; simp)
      try simp [hb]
    ·have hlt : i < (c :: s).length := (List.getElem?_eq_some_iff.1 hx).1;have hlt2 : (i : Int) < s.length + 1 := by simp at hlt; omega
     have hd := hall a (List.mem_of_getElem? hx);simp only [zb8, Bool.and_eq_true, decide_eq_true_eq] at hd;have hv := hval i hi;have hv2 := hval (i + 1) hlt;have hsn : zcs ((c :: s).take (i + 1)) = 10 * zcs ((c :: s).take i) + ((a.toNat : Int) - 48) := by
      rw [List.take_succ, hx]; exact zfM _ _
     generalize zcs ((c :: s).take i) = dv at hv hsn;have hsn2 := hsn.symm
     repeat' (first
  | (refine zaf rfl ?_; simp [hx, hlt2, hsn2])
  | (refine And.intro (by omega) ?_)
  | fail)
     refine LoopW.next ⟨i + 1, hlt⟩ (by simp at hlt; simp; omega) ?_
     exact (Wk.zdz (by simp [hn, hsn] <;> grind))
   ·refine Fun.run Tryz.func134 Tryz.ntmps134 Tryz.results134 rfl (by simp) fun Γ hn => ?_
    repeat' (first
  | (refine Cnd.of (fun hc => ?_) (fun hc => ?_) <;> (try (exfalso; omega)) <;> (try simp [h1', h3', h48]))
  | (refine zaf rfl ?_; simp [h1', h3', h48])
  | (refine CallP.f2 rfl (hsp) (by first | simp [h1', h3', h48] <;> rfl | fail) ?_; simp [h1', h3', h48])
  | fail)
    refine zc7 (α := { i : Nat // i <= (c :: s).length }) [0, 30] (fun i => [(4, .u (.int .i64 (zcs ((c :: s).take i.1)))), (31, .u (.int .i64 i.1))]) (fun i => (c :: s).length - i.1) ⟨0, by omega⟩ ?_ ?_
    ·exact (Wk.zdz (by simp [hn, zcs] <;> grind))
    rintro ⟨i, hi⟩;simp;rcases hx : (c :: s)[i]? with _ | a
    ·have hge : (c :: s).length <= i := by simpa using hx
     obtain rfl : i = (c :: s).length := by omega
     rw [List.take_length];have hge2 : ¬ ((c :: s).length : Int) < s.length + 1 := by simp
     by_cases hb : 1099511627776 < zcs (c :: s)
     ·repeat' (first
  | (refine zaf rfl ?_; simp [hb, hge2])
  | fail)
      (refine Pst.of ?_; simp)
      try simp [hb]
     ·repeat' (first
  | (refine zaf rfl ?_; simp [hb, hge2])
  | fail)
      (refine Pst.of ?_; simp)
      try simp [hb]
    ·have hlt : i < (c :: s).length := (List.getElem?_eq_some_iff.1 hx).1;have hlt2 : (i : Int) < s.length + 1 := by simp at hlt; omega
     have hd := hall a (List.mem_of_getElem? hx);simp only [zb8, Bool.and_eq_true, decide_eq_true_eq] at hd;have hv := hval i hi;have hv2 := hval (i + 1) hlt;have hsn : zcs ((c :: s).take (i + 1)) = 10 * zcs ((c :: s).take i) + ((a.toNat : Int) - 48) := by
      rw [List.take_succ, hx]; exact zfM _ _
     generalize zcs ((c :: s).take i) = dv at hv hsn;have hsn2 := hsn.symm
     repeat' (first
  | (refine zaf rfl ?_; simp [hx, hlt2, hsn2])
  | (refine And.intro (by omega) ?_)
  | fail)
     refine LoopW.next ⟨i + 1, hlt⟩ (by simp at hlt; simp; omega) ?_
     exact (Wk.zdz (by simp [hn, hsn] <;> grind))
  exact hloop h2'
theorem zmQ (s p : List UInt8) : Fun Tryz.prog 144 [.u (.str s), .u (.str p)] (· = .u (.bool (p.isPrefixOf s))) := by
 by_cases hl : p.length <= s.length
 ·have hl2 : (p.length : Int) <= s.length := by omega
  by_cases he : s.take p.length = p
  ·have hp : p.isPrefixOf s = true := List.isPrefixOf_iff_prefix.2 (List.prefix_iff_eq_take.2 he.symm);refine Fun.run Tryz.func144 Tryz.ntmps144 Tryz.results144 rfl (by simp) fun Γ hn => ?_
   repeat' (first
  | (refine zaf rfl ?_; simp [hl, hl2, he])
  | fail)
   all_goals
    (refine Pst.of ?_; simp)
   all_goals first | (rw [hp]; done) | exact List.isPrefixOf_iff_prefix.1 hp | (simp [hp]; done) | rfl
  ·have hp : p.isPrefixOf s = false := by
    cases h : p.isPrefixOf s with
    | false => rfl
    | true => exact absurd (List.prefix_iff_eq_take.1 (List.isPrefixOf_iff_prefix.1 h)).symm he
   refine Fun.run Tryz.func144 Tryz.ntmps144 Tryz.results144 rfl (by simp) fun Γ hn => ?_
   repeat' (first
  | (refine zaf rfl ?_; simp [hl, hl2, he])
  | fail)
   all_goals
    (refine Pst.of ?_; simp)
   all_goals first | (rw [hp]; done) | exact List.isPrefixOf_iff_prefix.1 hp | (simp [hp]; done) | rfl
 ·have hl2 : ¬ (p.length : Int) <= s.length := by omega
  have hp : p.isPrefixOf s = false := by
   cases h : p.isPrefixOf s with
   | false => rfl
   | true => exact absurd (List.isPrefixOf_iff_prefix.1 h).length_le hl
  refine Fun.run Tryz.func144 Tryz.ntmps144 Tryz.results144 rfl (by simp) fun Γ hn => ?_
  repeat' (first
  | (refine zaf rfl ?_; simp [hl, hl2])
  | fail)
  all_goals
   (refine Pst.of ?_; simp)
  all_goals first | (rw [hp]; done) | exact List.isPrefixOf_iff_prefix.1 hp | (simp [hp]; done) | rfl
theorem zoG (s p : List UInt8) : Fun Tryz.prog 135 [.u (.str s), .u (.str p)] (· = .u (.bool (p.isPrefixOf s))) := by
 have h := zmQ s p;refine Fun.run Tryz.func135 Tryz.ntmps135 Tryz.results135 rfl (by simp) fun Γ hn => ?_
 repeat' (first
  | (refine zaf rfl ?_; simp)
  | (refine CallP.f2 rfl (h) (by first | simp <;> rfl | fail) ?_; simp)
  | fail)
 (refine Pst.of ?_; simp)
@[local simp] theorem zwa : zrv 0 = .u (.row (signsL.map .str) 0) := by
 simp [zrv, globs, signsL, uOf]
theorem hsl : signsL.length = 11 := rfl
theorem zs0 (s : List UInt8) (hs : s ≠ []) (hl : s.length <= 1000000) : Fun Tryz.prog 114 [.u (.str s)] (· = nextD s) := by
 obtain ⟨c, r, rfl⟩ : ∃ c r, s = c :: r := by cases s with | nil => exact absurd rfl hs | cons c r => exact ⟨c, r, rfl⟩
 have h1 := zeW c;have h2 := zfN c;have h3 := zgH (c :: r) hl 133 zdR (fun c _ => zqP c) (by simp);have h4 := zgH (c :: r) hl 75 zb8 (fun c _ => zfN c) (by simp);have h5 := zns ((c :: r).take (zdu zdR (c :: r)));have h6 := zoN ((c :: r).take (zdu zb8 (c :: r))) (by have := zez zb8 (c :: r); rw [List.length_take]; omega);have l1 : (zdu zdR (c :: r) : Int) <= r.length + 1 := by have := zez zdR (c :: r); simp at this; omega
 have l2 : (zdu zb8 (c :: r) : Int) <= r.length + 1 := by have := zez zb8 (c :: r); simp at this; omega
 have l1' : zdu zdR (c :: r) <= r.length + 1 := by omega
 have l2' : zdu zb8 (c :: r) <= r.length + 1 := by omega
 unfold nextD zjb;cases c1 : zdW c with
 | true =>
  rw [c1] at h1;cases c3 : zkT ((c :: r).take (zdu zdR (c :: r))) with
  | true =>
   rw [c3] at h5;refine Fun.run Tryz.func114 Tryz.ntmps114 Tryz.results114 rfl (by simp) fun Γ hn => ?_
   repeat' (first
  | (refine zaf rfl ?_; simp [l1, l1'])
  | ((first | refine CallP.f2 rfl (h1) (by first | simp [l1, l1'] <;> rfl | fail) ?_ | refine CallP.f2 rfl (h3) (by first | simp [l1, l1'] <;> rfl | fail) ?_ | refine CallP.f2 rfl (h5) (by first | simp [l1, l1'] <;> rfl | fail) ?_ | fail); simp [l1, l1'])
  | fail)
   (refine Pst.of ?_; simp)
   simp [c1, c3]
  | false =>
   rw [c3] at h5;refine Fun.run Tryz.func114 Tryz.ntmps114 Tryz.results114 rfl (by simp) fun Γ hn => ?_
   repeat' (first
  | (refine zaf rfl ?_; simp [l1, l1'])
  | ((first | refine CallP.f2 rfl (h1) (by first | simp [l1, l1'] <;> rfl | fail) ?_ | refine CallP.f2 rfl (h3) (by first | simp [l1, l1'] <;> rfl | fail) ?_ | refine CallP.f2 rfl (h5) (by first | simp [l1, l1'] <;> rfl | fail) ?_ | fail); simp [l1, l1'])
  | fail)
   (refine Pst.of ?_; simp)
   simp [c1, c3]
 | false =>
  rw [c1] at h1;cases c2 : zb8 c with
  | true =>
   rw [c2] at h2;cases c3 : zhi ((c :: r).take (zdu zb8 (c :: r))) with
   | none =>
    rw [c3] at h6;refine Fun.run Tryz.func114 Tryz.ntmps114 Tryz.results114 rfl (by simp) fun Γ hn => ?_
    repeat' (first
  | (refine zaf rfl ?_; simp [l2, l2'])
  | ((first | refine CallP.f2 rfl (h1) (by first | simp [l2, l2'] <;> rfl | fail) ?_ | refine CallP.f2 rfl (h2) (by first | simp [l2, l2'] <;> rfl | fail) ?_ | refine CallP.f2 rfl (h4) (by first | simp [l2, l2'] <;> rfl | fail) ?_ | refine CallP.f2 rfl (h6) (by first | simp [l2, l2'] <;> rfl | fail) ?_ | fail); simp [l2, l2'])
  | fail)
    (refine Pst.of ?_; simp)
    simp [c1, c2, c3]
   | some n =>
    rw [c3] at h6;refine Fun.run Tryz.func114 Tryz.ntmps114 Tryz.results114 rfl (by simp) fun Γ hn => ?_
    repeat' (first
  | (refine zaf rfl ?_; simp [l2, l2'])
  | ((first | refine CallP.f2 rfl (h1) (by first | simp [l2, l2'] <;> rfl | fail) ?_ | refine CallP.f2 rfl (h2) (by first | simp [l2, l2'] <;> rfl | fail) ?_ | refine CallP.f2 rfl (h4) (by first | simp [l2, l2'] <;> rfl | fail) ?_ | refine CallP.f2 rfl (h6) (by first | simp [l2, l2'] <;> rfl | fail) ?_ | fail); simp [l2, l2'])
  | fail)
    (refine Pst.of ?_; simp)
    simp [c1, c2, c3]
  | false =>
   rw [c2] at h2;refine Fun.run Tryz.func114 Tryz.ntmps114 Tryz.results114 rfl (by simp) fun Γ hn => ?_
   repeat' (first
  | (refine zaf rfl ?_; simp [hsl, List.take_of_length_le])
  | ((first | refine CallP.f2 rfl (h1) (by first | simp [hsl, List.take_of_length_le] <;> rfl | fail) ?_ | refine CallP.f2 rfl (h2) (by first | simp [hsl, List.take_of_length_le] <;> rfl | fail) ?_ | fail); simp [hsl, List.take_of_length_le])
  | fail)
   refine zc7 (α := { i : Nat // i <= 11 /\ ∀ x ∈ signsL.take i, x.isPrefixOf (c :: r) = false }) [0, 2, 3, 43] (fun i => [(44, .u (.int .i64 i.1))]) (fun i => 11 - i.1) ⟨0, by omega, by simp⟩ ?_ ?_
   ·exact (Wk.zdz (by simp [hn] <;> grind))
   rintro ⟨i, hi, hb⟩;simp;rcases hx : signsL[i]? with _ | x
   ·have hge : signsL.length <= i := by simpa using hx
    obtain rfl : i = 11 := by rw [hsl] at hge; omega
    have hnone : signsL.find? (fun x => x.isPrefixOf (c :: r)) = none := List.find?_eq_none.2 fun x hx => by
     rw [hb x (by rw [List.take_of_length_le (by rw [hsl]; omega)]; exact hx)]; simp
    repeat' (first
  | (refine zaf rfl ?_; simp)
  | fail)
    (refine Pst.of ?_; simp)
    simp [c1, c2, hnone]
   ·have hlt : i < 11 := by have := (List.getElem?_eq_some_iff.1 hx).1; rw [hsl] at this; exact this
    have hlt2 : (i : Int) < 11 := by omega
    have hp := zoG (c :: r) x;by_cases hpx : x.isPrefixOf (c :: r) = true
    ·have hfind : signsL.find? (fun x => x.isPrefixOf (c :: r)) = some x := by
      have e : signsL = signsL.take i ++ x :: signsL.drop (i + 1) := by
       obtain ⟨h5, h6⟩ := List.getElem?_eq_some_iff.1 hx;rw [<- h6, List.getElem_cons_drop, List.take_append_drop]
      rw [e, List.find?_append, List.find?_eq_none.2 (fun y hy => by rw [hb y hy]; simp), List.find?_cons, hpx];rfl
     rw [hpx] at hp
     repeat' (first
  | (refine zaf rfl ?_; simp [hx, hsl, hlt2])
  | (refine CallP.f2 rfl (hp) (by first | simp [hx, hsl, hlt2] <;> rfl | fail) ?_; simp [hx, hsl, hlt2])
  | fail)
     (refine Pst.of ?_; simp)
     simp [c1, c2, hfind]
    ·rw [Bool.eq_false_iff.2 hpx] at hp
     repeat' (first
  | (refine zaf rfl ?_; simp [hx, hsl, hlt2])
  | (refine And.intro (by omega) ?_)
  | (refine CallP.f2 rfl (hp) (by first | simp [hx, hsl, hlt2] <;> rfl | fail) ?_; simp [hx, hsl, hlt2])
  | fail)
     refine LoopW.next ⟨i + 1, by omega, fun y hy => ?_⟩ (by simp; omega) ?_
     ·rw [List.take_succ, hx] at hy;rcases List.mem_append.1 hy with h | h
      ·exact hb y h
      ·simp at h; subst h; exact Bool.eq_false_iff.2 hpx
     ·exact (Wk.zdz (by simp [hn] <;> grind))
end Go.Proofs.YtmlpcgkaonifcaaGreatDoor
namespace Go.VL
theorem zuD {P : Program} {Γ : Ctx} {c : Code} {s : St} {Q : Exit -> St -> Prop} {x j : Nat} {cells : List U} {rows : List (List U)} (hx : getK s.env x = some (.u (.agg cells))) (hj : cells[j]? = some (.sl rows)) (h : rows.length <= 9223372036854775807 -> V P Γ c s Q) : V P Γ c s Q :=
 zsf (fun K a w hs => by
  have hr := (hs.getK hx).2;obtain ⟨vs, hl, _, hr⟩ := zec hr;have hr := hr j _ hj;generalize vs.getD j undef = v at hr;cases hr with
  | slE => simp
  | sl _ b o sz c f hc hcx => unfold maxLen at hcx; omega) h
end Go.VL
namespace Go.Proofs.YtmlpcgkaonifcaaGreatDoor
open Go Go.VL
attribute [local simp] zbu zcZ zcp evPure opd uOf zaA St.put St.at getK binD binI binS binB nilD aggD zfv zf5 lookD lookR zcm rangeS Go.VL.nextD Go.VL.nextS zco zge zgb zfp zcv mkV zbf zaS zaR zaQ zcX zaO za8 zbt mapEff zdD ze5 Key.kk shiftI arith unD convD zdq loadD cellsAt fieldAddrD fieldD indexAddrD indexSlD arrAddr indexD sliceD cutD lenD minmaxD nilCheckD buildD fillD zbY zc2 zev setAll zcT zd9 zci zfs zch St.add zaw zbz rowsOf zdf zcx zad zac zaa zbx zc8 zaZ entry zbM zbQ valD zcl zcw zft zdb zdc zb0 zbK zal zaW zbh delAll effD St.effS zcE zaT zaG zcF zaU zaI zbV zaH zaz zbW zcC zbs zbU za5 zbS zbT zar mkD zcj zbD zbI zal zcr D.ids Op.operands Call.operands zbF makeIfD makeFuncD typeAssertD zf4 zdi zdj zfR zcn IntKind.bits zct zay List.take_of_length_le List.range_succ zcN zcc zcO zcI zbB zb1 zb3 zcJ zb5 zbc zb4 zb2 zg4 zcb zcL zaX zaK zcM zaY zaM zca zaL zaD zcR zcS zgB zab frzN frz1 zav zau St.frz St.frzS frzS fv za2 zbn zbo frzObS zat zan frz zbL zbk zbl zbN zb7 zce za6 St.norm St.lp St.only zax wkE wkO wkU Ob.under D.under zaj zak zcP zcd zcQ h4s zd1 zaC zbC List.zipIdx_cons List.zipIdx_nil zzC zzD Nat.zero_add
attribute [local irreducible] V G H HD HD2 zbg Eff CallP CallV EndOK Fun Ret FinOK LoopI LoopW EndW HR vs2 RN Cnd H4
def zda : Nat -> Exp -> Int -> Int
 | 0, _, most => most + 1
 | L + 1, e, most => if 60 < e.s.length then most + 1 else e.args.foldl (fun n x => if n <= most then n + zda L x (most - n) else n) 1
theorem ziq (L : Nat) (e : Exp) (most : Int) : zda (L + 1) e most = if 60 < e.s.length then most + 1 else e.args.foldl (fun n x => if n <= most then n + zda L x (most - n) else n) 1 := by rw [zda]
theorem zgr : ∀ (L : Nat) (e : Exp) (most : Int), 0 <= most -> 1 <= zda L e most /\ zda L e most <= most + 1
 | 0, e, most, h => by rw [zda]; omega
 | L + 1, e, most, h => by
  rw [zda];split
  ·omega
  ·have : ∀ (l : List Exp) (n : Int), 1 <= n -> n <= most + 1 -> 1 <= l.foldl (fun n x => if n <= most then n + zda L x (most - n) else n) n /\ l.foldl (fun n x => if n <= most then n + zda L x (most - n) else n) n <= most + 1 := by
    intro l
    induction l with
    | nil => intro n h1 h2; exact ⟨h1, h2⟩
    | cons a l ih =>
     intro n h1 h2;rw [List.foldl_cons];split
     ·rename_i hn;have := zgr L a (most - n) (by omega);exact ih _ (by omega) (by omega)
     ·exact ih n h1 h2
   exact this _ 1 (by omega) (by omega)
theorem zf2 {L : Nat} {most : Int} : ∀ (l : List Exp) (n : Int), ¬ n <= most -> l.foldl (fun n x => if n <= most then n + zda L x (most - n) else n) n = n
 | [], _, _ => rfl
 | a :: l, n, h => by rw [List.foldl_cons, if_neg h]; exact zf2 l n h
theorem zlv : ∀ (L : Nat) (e : Exp) (most : Int), 0 <= most -> most <= 1000 -> (L : Int) <= 100 -> Fun Tryz.prog 42 [zdo e, .u (.int .i64 most), .u (.int .i64 L)] (· = .u (.int .i64 (zda L e most)))
 | 0, e, most, _, _, _ => by
  rw [zda];refine Fun.run Tryz.func42 Tryz.ntmps42 Tryz.results42 rfl (by simp) fun Γ hn => ?_; simp only [zzE, zzC, zzD];simp only [zdo]
  repeat' (first
  | (refine zaf rfl ?_; simp)
  | (refine And.intro (by omega) ?_)
  | fail)
  (refine Pst.of ?_; simp)
 | L + 1, e, most, h0, h1, hL => by
  rw [ziq];by_cases hs : 60 < e.s.length
  ·rw [if_pos hs];refine Fun.run Tryz.func42 Tryz.ntmps42 Tryz.results42 rfl (by simp) fun Γ hn => ?_; simp only [zzE, zzC, zzD];simp only [zdo]
   repeat' (first
  | (refine Cnd.of (fun hc => ?_) (fun hc => ?_) <;> (try (exfalso; omega)) <;> (try simp))
  | (refine zaf rfl ?_; simp)
  | (refine And.intro (by omega) ?_)
  | fail)
   all_goals first
    | (exfalso; omega)
    | ((refine Pst.of ?_; simp); done)
  rw [if_neg hs];generalize hg : (e.args.foldl (fun n x => if n <= most then n + zda L x (most - n) else n) 1) = g;refine Fun.run Tryz.func42 Tryz.ntmps42 Tryz.results42 rfl (by simp) fun Γ hn => ?_; simp only [zzE, zzC, zzD];simp only [zdo];refine zuD (x := 0) (j := 4) rfl rfl fun hl => ?_;simp only [List.length_map] at hl
  repeat' (first
  | (refine Cnd.of (fun hc => ?_) (fun hc => ?_) <;> (try (exfalso; omega)) <;> (try simp))
  | (refine zaf rfl ?_; simp)
  | fail)
  refine zc7 (α := { p : Nat × Int // p.1 <= e.args.length /\ 1 <= p.2 /\ p.2 <= most + 1 /\ g = (e.args.drop p.1).foldl (fun n x => if n <= most then n + zda L x (most - n) else n) p.2 }) [1, 2, 3] (fun p => [(7, .u (.int .i64 p.1.2)), (8, .u (.int .i64 p.1.1))]) (fun p => e.args.length - p.1.1) ⟨(0, 1), by simp, by simp, by simp; omega, by simp [hg]⟩ ?_ ?_
  ·exact (Wk.zdz (by simp [hn] <;> grind))
  rintro ⟨⟨i, n⟩, hi, hn1, hn2, hgn⟩;simp only at hi hn1 hn2 hgn;simp;rcases hx : e.args[i]? with _ | x
  ·have hge : e.args.length <= i := by simpa using hx
   rw [List.drop_of_length_le hge] at hgn
   repeat' (first
  | (refine Cnd.of (fun hc => ?_) (fun hc => ?_) <;> (try (exfalso; omega)) <;> (try simp [hx]))
  | (refine zaf rfl ?_; simp [hx])
  | fail)
   (refine Pst.of ?_; simp)
   rw [hgn]; rfl
  ·have hlt : i < e.args.length := (List.getElem?_eq_some_iff.1 hx).1;by_cases hm : n <= most
   ·have h5 := zlv L x (most - n) (by omega) (by omega) (by omega);have hb := zgr L x (most - n) (by omega);simp only [zdo] at h5;rw [List.drop_eq_getElem_cons hlt, List.foldl_cons, if_pos hm, (List.getElem?_eq_some_iff.1 hx).2] at hgn;generalize zda L x (most - n) = y at h5 hb hgn
    repeat' (first
  | (refine Cnd.of (fun hc => ?_) (fun hc => ?_) <;> (try (exfalso; omega)) <;> (try simp [hx, x.row_eq]))
  | (refine zaf rfl ?_; simp [hx, x.row_eq])
  | (refine And.intro (by omega) ?_)
  | (refine CallP.f2 rfl (h5) (by first | simp [hx, x.row_eq] <;> rfl | fail) ?_; simp [hx, x.row_eq])
  | fail)
    refine LoopW.next ⟨(i + 1, n + y), (by omega : i + 1 <= e.args.length), (by omega : 1 <= n + y), (by omega : n + y <= most + 1), hgn⟩ (by simp; omega) ?_
    exact (Wk.zdz (by simp [hn] <;> grind))
   ·rw [zf2 _ _ hm] at hgn
    repeat' (first
  | (refine Cnd.of (fun hc => ?_) (fun hc => ?_) <;> (try (exfalso; omega)) <;> (try simp [hx]))
  | (refine zaf rfl ?_; simp [hx])
  | fail)
    (refine Pst.of ?_; simp)
    rw [hgn]
def zms (e : Exp) (n : Int) : Bool := decide (zda 16 e n <= n)
theorem zeg (e : Exp) (n : Int) (h0 : 0 <= n) (h1 : n <= 1000) : Fun Tryz.prog 17 [zdo e, .u (.int .i64 n)] (· = .u (.bool (zms e n))) := by
 have h2 := zlv 16 e n h0 h1 (by omega);unfold zms;simp only [zdo] at h2 ⊢;generalize zda 16 e n = y at h2 ⊢;refine Fun.run Tryz.func17 Tryz.ntmps17 Tryz.results17 rfl (by simp) fun Γ hn => ?_
 repeat' (first
  | (refine zaf rfl ?_; simp)
  | (refine CallP.f2 rfl (h2) (by first | simp <;> rfl | fail) ?_; simp)
  | fail)
 (refine Pst.of ?_; simp)
mutual
def zeU : Exp -> Int
 | .mk op _ _ _ args => (if op = 1 then 1 else 0) + zcH args
def zcH : List Exp -> Int
 | [] => 0
 | e :: r => zeU e + zcH r
end
theorem zly (e : Exp) : zeU e = (if e.op = 1 then 1 else 0) + zcH e.args := by cases e with | mk op n u s args => rw [zeU]; rfl
mutual
theorem zfb : ∀ e : Exp, 0 <= zeU e
 | .mk op n u s args => by
  rw [zeU];have := zdx args;split <;> omega
theorem zdx : ∀ l : List Exp, 0 <= zcH l
 | [] => by rw [zcH]; omega
 | e :: r => by
  rw [zcH];have := zfb e;have := zdx r;omega
end
theorem zoR {l : List Exp} {i : Nat} {x : Exp} (h : l[i]? = some x) : zcH (l.take (i + 1)) = zcH (l.take i) + zeU x := by
 induction l generalizing i with
 | nil => simp at h
 | cons a l ih =>
  cases i with
  | zero => simp at h; subst h; simp [zcH]
  | succ i => rw [List.take_succ_cons, List.take_succ_cons, zcH, zcH, ih (i := i) (by simpa using h)]; omega
theorem zoQ {l : List Exp} (i : Nat) : zcH (l.take i) <= zcH l := by
 induction l generalizing i with
 | nil => simp
 | cons a l ih =>
  cases i with
  | zero => rw [List.take_zero]; have := zdx (a :: l); rw [show zcH [] = 0 by rw [zcH]]; exact this
  | succ i => rw [List.take_succ_cons, zcH, zcH]; have := ih i; omega
theorem zlX : ∀ (L : Nat) (e : Exp) (most : Int), 0 <= most -> zda L e most <= most -> zeU e <= zda L e most
 | 0, e, most, _, h => by rw [zda] at h; omega
 | L + 1, e, most, h0, h => by
  rw [ziq] at h ⊢;by_cases hs : 60 < e.s.length
  ·rw [if_pos hs] at h; omega
  rw [if_neg hs] at h ⊢;have key : ∀ (l : List Exp) (n : Int), 1 <= n -> l.foldl (fun n x => if n <= most then n + zda L x (most - n) else n) n <= most -> n + zcH l <= l.foldl (fun n x => if n <= most then n + zda L x (most - n) else n) n := by
   intro l
   induction l with
   | nil => intro n _ _; rw [zcH]; simp
   | cons a l ih =>
    intro n h1 h2;rw [List.foldl_cons] at h2 ⊢;by_cases hn : n <= most
    ·rw [if_pos hn] at h2 ⊢;have hb := zgr L a (most - n) (by omega);have h3 := ih _ (by omega) h2;have h4 : n + zda L a (most - n) <= most := by
      rcases Int.lt_or_le most (n + zda L a (most - n)) with h5 | h5
      ·rw [zf2 _ _ (by omega)] at h2; omega
      ·exact h5
     have h5 := zlX L a (most - n) (by omega) (by omega);rw [zcH];omega
    ·rw [if_neg hn, zf2 _ _ hn] at h2; omega
  have h1 := key e.args 1 (by omega) h;rw [zly];by_cases h3 : e.op = 1
  ·rw [if_pos h3]; omega
  ·rw [if_neg h3]; omega
theorem zjB : ∀ (m : Nat) (e : Exp), SizeOf.sizeOf e <= m -> zeU e <= 1000000 -> Fun Tryz.prog 41 [zdo e] (· = .u (.int .i64 (zeU e)))
 | 0, e, hm, _ => by cases e; simp at hm
 | m + 1, e, hm, hN => by
  have hch : ∀ x ∈ e.args, SizeOf.sizeOf x <= m := fun x hx => by
   cases e with
   | mk op n u s args =>
    have h1 := List.sizeOf_lt_of_mem (show x ∈ args from hx);simp at hm;omega
  rw [zly] at hN ⊢;have hnn := zdx e.args;generalize hk : (if e.op = 1 then (1 : Int) else 0) = k0 at hN ⊢;have hk01 : 0 <= k0 /\ k0 <= 1 := by rw [<- hk]; split <;> omega
  refine Fun.run Tryz.func41 Tryz.ntmps41 Tryz.results41 rfl (by simp) fun Γ hn => ?_; simp only [zzE, zzC, zzD];simp only [zdo];refine zuD (x := 0) (j := 4) rfl rfl fun hl => ?_;simp only [List.length_map] at hl
  repeat' (first
  | (refine Cnd.of (fun hc => ?_) (fun hc => ?_) <;> (try (exfalso; omega)) <;> (try simp))
  | (refine zaf rfl ?_; simp)
  | fail)
  all_goals
   refine zc7 (α := { i : Nat // i <= e.args.length }) [1] (fun i => [(3, .u (.int .i64 (k0 + zcH (e.args.take i.1)))), (4, .u (.int .i64 i.1))]) (fun i => e.args.length - i.1) ⟨0, by omega⟩ ?_ ?_
   ·exact (Wk.zdz (by simp [hn, zcH] <;> grind))
   rintro ⟨i, hi⟩;simp;rcases hx : e.args[i]? with _ | x
   ·have hge : e.args.length <= i := by simpa using hx
    obtain rfl : i = e.args.length := by omega
    repeat' (first
  | (refine zaf rfl ?_; simp [hx])
  | fail)
    (refine Pst.of ?_; simp)
   ·have hlt : i < e.args.length := (List.getElem?_eq_some_iff.1 hx).1;have hat := zoR hx;have hle := zoQ (l := e.args) (i + 1);have hn0 := zdx (e.args.take i);have hnx := zfb x;have h5 := zjB m x (hch x (List.mem_of_getElem? hx)) (by omega);simp only [zdo] at h5
    repeat' (first
  | (refine Cnd.of (fun hc => ?_) (fun hc => ?_) <;> (try (exfalso; omega)) <;> (try simp [hx, x.row_eq]))
  | (refine zaf rfl ?_; simp [hx, x.row_eq])
  | (refine And.intro (by omega) ?_)
  | (refine CallP.f2 rfl (h5) (by first | simp [hx, x.row_eq] <;> rfl | fail) ?_; simp [hx, x.row_eq])
  | fail)
    all_goals
     refine LoopW.next ⟨i + 1, by omega⟩ (by simp; omega) ?_
     exact (Wk.zdz (by simp [hn, hat, Int.add_assoc] <;> grind))
end Go.Proofs.YtmlpcgkaonifcaaGreatDoor
namespace Go.Proofs.YtmlpcgkaonifcaaGreatDoor
open Go Go.VL
attribute [local simp] zbu zcZ zcp evPure opd uOf zaA St.put St.at getK binD binI binS binB nilD aggD zfv zf5 lookD lookR zcm rangeS Go.VL.nextD Go.VL.nextS zco zge zgb zfp zcv mkV zbf zaS zaR zaQ zcX zaO za8 zbt mapEff zdD ze5 Key.kk shiftI arith unD convD zdq loadD cellsAt fieldAddrD fieldD indexAddrD indexSlD arrAddr indexD sliceD cutD lenD minmaxD nilCheckD buildD fillD zbY zc2 zev setAll zcT zd9 zci zfs zch St.add zaw zbz rowsOf zdf zcx zad zac zaa zbx zc8 zaZ entry zbM zbQ valD zcl zcw zft zdb zdc zb0 zbK zal zaW zbh delAll effD St.effS zcE zaT zaG zcF zaU zaI zbV zaH zaz zbW zcC zbs zbU za5 zbS zbT zar mkD zcj zbD zbI zal zcr D.ids Op.operands Call.operands zbF makeIfD makeFuncD typeAssertD zf4 zdi zdj zfR zcn IntKind.bits zct zay List.take_of_length_le List.range_succ zcN zcc zcO zcI zbB zb1 zb3 zcJ zb5 zbc zb4 zb2 zg4 zcb zcL zaX zaK zcM zaY zaM zca zaL zaD zcR zcS zgB zab frzN frz1 zav zau St.frz St.frzS frzS fv za2 zbn zbo frzObS zat zan frz zbL zbk zbl zbN zb7 zce za6 St.norm St.lp St.only zax wkE wkO wkU Ob.under D.under zaj zak zcP zcd zcQ h4s zd1 zaC zbC List.zipIdx_cons List.zipIdx_nil zzC zzD Nat.zero_add
attribute [local irreducible] V G H HD HD2 zbg Eff CallP CallV EndOK Fun Ret FinOK LoopI LoopW EndW HR vs2 RN Cnd H4
def zpo (n m : Int) : List Let -> Int -> Int -> Bool
 | [], _, _ => true
 | l :: r, i, p => if i <= m then (if 60 < l.name.length \/ zms l.body n = false then false else if 2000 < p * (1 + zeU l.body) then false else zpo n m r (i + 1) (p * (1 + zeU l.body))) else true
def zw5 (l : List Let) (m n : Int) : Bool := zpo n m l 0 1 && decide ((l.length : Int) <= m)
theorem zm5 (l : List Let) (m n : Int) (h0 : 0 <= n) (h1 : n <= 1000) (h2 : 0 <= m) (h3 : m <= 1000) : Fun Tryz.prog 16 [.u (zaV l), .u (.int .i64 m), .u (.int .i64 n)] (· = .u (.bool (zw5 l m n))) := by
 unfold zw5;generalize hB : zpo n m l 0 1 = B;refine Fun.run Tryz.func16 Tryz.ntmps16 Tryz.results16 rfl (by simp) fun Γ hn => ?_; simp only [zzE, zzC, zzD];simp only [zaV];refine zg3 (x := 0) rfl fun hl => ?_;simp only [List.length_map] at hl
 repeat' (first
  | (refine zaf rfl ?_; simp)
  | fail)
 refine zc7 (α := { q : Nat × Int // q.1 <= l.length /\ (q.1 : Int) <= m + 1 /\ 1 <= q.2 /\ q.2 <= 2000 /\ B = zpo n m (l.drop q.1) q.1 q.2 }) [0, 1, 2] (fun q => [(7, .u (.int .i64 q.1.2)), (8, .u (.int .i64 q.1.1))]) (fun q => l.length - q.1.1) ⟨(0, 1), by simp, by simp; omega, by simp, by simp, by simp [hB]⟩ ?_ ?_
 ·exact (Wk.env rfl rfl rfl (by simp [wkE, St.lp, zax, zaa, getK] <;> (try (intros; simp_all; done)) <;> (try (intros; omega)) <;> (try grind)))
 rintro ⟨⟨i, p⟩, hi, him, hp1, hp2, hb⟩;simp only at hi him hp1 hp2 hb;simp;rcases hx : l[i]? with _ | x
 ·have hge : l.length <= i := by simpa using hx
  obtain rfl : i = l.length := by omega
  rw [List.drop_length, zpo] at hb
  repeat' (first
  | (refine zaf rfl ?_; simp [hx])
  | fail)
  all_goals
   (refine Pst.of ?_; simp)
  all_goals simp [hb]
 ·have hlt : i < l.length := (List.getElem?_eq_some_iff.1 hx).1;rw [List.drop_eq_getElem_cons hlt, (List.getElem?_eq_some_iff.1 hx).2, zpo] at hb;by_cases hm : (i : Int) <= m
  ·rw [if_pos hm] at hb;have h5 := zeg x.body n h0 h1;simp only [zdo] at h5;by_cases hn60 : 60 < x.name.length
   ·rw [if_pos (.inl hn60)] at hb;cases hf : zms x.body n
    all_goals
     rw [hf] at h5
     repeat' (first
  | (refine Cnd.of (fun hc => ?_) (fun hc => ?_) <;> (try (exfalso; omega)) <;> (try simp [hx, hm]))
  | (refine zaf rfl ?_; simp [hx, hm])
  | fail)
     all_goals first
      | (exfalso; omega)
      | ((refine Pst.of ?_; simp); simp [hb]; done)
   ·cases hf : zms x.body n with
    | false =>
     rw [if_pos (.inr hf)] at hb;rw [hf] at h5
     repeat' (first
  | (refine Cnd.of (fun hc => ?_) (fun hc => ?_) <;> (try (exfalso; omega)) <;> (try simp [hx, hm]))
  | (refine zaf rfl ?_; simp [hx, hm])
  | (refine CallP.f2 rfl (h5) (by first | simp [hx, hm] <;> rfl | fail) ?_; simp [hx, hm])
  | fail)
     all_goals first
      | (exfalso; omega)
      | ((refine Pst.of ?_; simp); simp [hb]; done)
    | true =>
     rw [if_neg (by simp [hn60, hf])] at hb;rw [hf] at h5;have hfn : zeU x.body <= 1000 := by
      unfold zms at hf;simp only [decide_eq_true_eq] at hf;have := zlX 16 x.body n h0 hf;omega
     have hnn := zfb x.body;have h6 := zjB _ x.body (Nat.le_refl _) (by omega);simp only [zdo] at h6;generalize zeU x.body = y at h6 hb hfn hnn;have hpy : p * (1 + y) <= 2000 * 1001 := Int.mul_le_mul hp2 (by omega) (by omega) (by omega);have hpy1 : 1 <= p * (1 + y) := by
      have := Int.mul_le_mul hp1 (show (1 : Int) <= 1 + y by omega) (by omega) (by omega);omega
     repeat' (first
  | (refine Cnd.of (fun hc => ?_) (fun hc => ?_) <;> (try (exfalso; omega)) <;> (try simp [hx, hm]))
  | (refine zaf rfl ?_; simp [hx, hm])
  | (refine And.intro (by omega) ?_)
  | ((first | refine CallP.f2 rfl (h5) (by first | simp [hx, hm] <;> rfl | fail) ?_ | refine CallP.f2 rfl (h6) (by first | simp [hx, hm] <;> rfl | fail) ?_ | fail); simp [hx, hm])
  | fail)
     all_goals first
      | (exfalso; omega)
      | ((refine Pst.of ?_; simp); rw [if_pos (by omega)] at hb; simp [hb]; done)
      | (refine LoopW.next ⟨(i + 1, p * (1 + y)), (by omega : i + 1 <= l.length), (by simp; omega), hpy1, (by omega : p * (1 + y) <= 2000), by rw [if_neg (by omega)] at hb; simpa using hb⟩ (by simp; omega) ?_; exact (Wk.env rfl rfl rfl (by simp [wkE, St.lp, zax, zaa, getK] <;> (try (intros; simp_all; done)) <;> (try (intros; omega)) <;> (try grind))))
  ·rw [if_neg hm] at hb
   repeat' (first
  | (refine Cnd.of (fun hc => ?_) (fun hc => ?_) <;> (try (exfalso; omega)) <;> (try simp [hx, hm]))
  | (refine zaf rfl ?_; simp [hx, hm])
  | fail)
   (refine Pst.of ?_; simp)
   simp [hb]
end Go.Proofs.YtmlpcgkaonifcaaGreatDoor
namespace Go.Proofs.YtmlpcgkaonifcaaGreatDoor
open Go Go.VL Go.ChangeShapes Go.WideShapes Go.ChangeAt Go.RowKit
theorem zxU {r : List U} (h : HasRow Tryz.prog 27 r) : ∃ b : By, r = zaF b := by
 obtain ⟨rs, hr, h⟩ := h.of_struct zx8
 match rs, h with
 | [a1, a2, a3, a4, a5, a6, a7, a8, a9, a10, a11, a12, a13, a14, a15, a16, a17], h =>
  obtain ⟨h1, h2, h3, h4, h5, h6, h7, h8, h9, h10, h11, h12, h13, h14, h15, h16, h17, _⟩ := h;obtain ⟨x1, rfl, _⟩ := h1.of_int io3;obtain ⟨x2, rfl, _⟩ := h2.of_int io3;obtain ⟨x3, rfl, _⟩ := h3.of_int io3;obtain ⟨x4, rfl, _⟩ := h4.of_int io3;obtain ⟨x5, rfl, _⟩ := h5.of_int io3;obtain ⟨x6, rfl, _⟩ := h6.of_int io3;obtain ⟨x7, rfl⟩ := h7.of_bool (by simp);obtain ⟨x8, rfl, _⟩ := h8.of_int io3;obtain ⟨x9, rfl, _⟩ := h9.of_int io3;obtain ⟨x10, rfl, _⟩ := h10.of_int io3;obtain ⟨x11, rfl, _⟩ := h11.of_int io3;obtain ⟨rows, rfl, _, h12⟩ := h12.of_slice zBP;obtain ⟨l, rfl, _⟩ := rows_list (fun l : Let => [.str l.name, .int .i64 l.body.op, .int .i64 l.body.n, .int .i64 l.body.unit, .str l.body.s, .sl (l.body.args.map Exp.row)]) (fun _ => True) (rows := rows) fun r hr => zwp (h12 r hr);obtain ⟨e1, rfl⟩ := zhv h13;obtain ⟨e2, rfl⟩ := zhv h14;obtain ⟨e3, rfl⟩ := zhv h15;obtain ⟨e4, rfl⟩ := zhv h16;obtain ⟨e5, rfl⟩ := zhv h17;exact ⟨⟨x1, x2, x3, x4, x5, x6, x7, x8, x9, x10, x11, l, e1, e2, e3, e4, e5⟩, by rw [hr]; rfl⟩
end Go.Proofs.YtmlpcgkaonifcaaGreatDoor
namespace Go.Proofs.YtmlpcgkaonifcaaGreatDoor
open Go Go.VL
theorem zjC {lets : List Let} {e : Exp} (h : zdI lets e = true) : lets.length <= 20 /\ zbi 12 e = true /\ ∀ l ∈ lets, zbi 12 l.body = true := by
 simp only [zdI, Bool.and_eq_true, decide_eq_true_eq, Bool.not_eq_true', List.any_eq_false, Bool.not_eq_true] at h;exact ⟨h.1.1, h.1.2, fun l hl => by have := h.2 l hl; simpa using this⟩
def zdH (lets : List Let) (e : Exp) : Bool := zdI lets e && zgh (sF (mOf [] lets)) e
abbrev Tab := List (Int × Int × Bool)
def zex (n : Int) : Except Int Int := if 1099511627776 < n \/ n < -1099511627776 then .error 3 else .ok n
def zgT (a b : Int) : Int := if a.tdiv b * b ≠ a /\ ¬ (a < 0 ↔ b < 0) then a.tdiv b - 1 else a.tdiv b
def zhh (a b c : Int) : Except Int Int :=
 if a ≠ 0 /\ ((1099511627777 * c).tdiv (max a (-a)) < b \/ b < (-(1099511627777 * c)).tdiv (max a (-a))) then .error 3 else zex (zgT (a * b) c)
def zdM (b : Bool) : Int := if b = true then 1 else 0
def zjk (op : Int) (sh : Bool) (a b : Int) : Except Int Int :=
 if op = 2 then zex (a + b) else if op = 3 then zex (a - b) else if op = 4 then zhh a b (if sh = true then 1000 else 1)
 else if op = 5 then (if b = 0 then .error 15 else zex (zgT a b))
 else if op = 6 then .ok (min a b) else if op = 7 then .ok (max a b) else if op = 8 then .ok (zdM (decide (a < b))) else .ok (zdM (decide (a = b)))
abbrev TM := Tab -> Except Int Int × Tab
def TM.bind (f : TM) (g : Int -> TM) : TM := fun t => match f t with | (.ok v, t') => g v t' | (.error e, t') => (.error e, t')
def TM.ret (x : Except Int Int) : TM := fun t => (x, t)
theorem TM.bind_ok {f : TM} {g : Int -> TM} {t t' : Tab} {v : Int} (h : f t = (.ok v, t')) : f.bind g t = g v t' := by unfold TM.bind; rw [h]
theorem TM.zh3 {f : TM} {g : Int -> TM} {t t' : Tab} {e : Int} (h : f t = (.error e, t')) : f.bind g t = (.error e, t') := by unfold TM.bind; rw [h]
mutual
def zop (nm : List UInt8 -> TM) (sh : Exp -> Bool) : Exp -> TM
 | .mk op n _ s args =>
  if op = 0 then .ret (zex n)
  else if op = 1 then nm s
  else if op = 10 then (zdV nm sh args 0).bind fun a => if a = 0 then .ret (.ok 0) else (zdV nm sh args 1).bind fun b => .ret (.ok (zdM (decide (b ≠ 0))))
  else if op = 11 then (zdV nm sh args 0).bind fun a => if a ≠ 0 then .ret (.ok 1) else (zdV nm sh args 1).bind fun b => .ret (.ok (zdM (decide (b ≠ 0))))
  else if op = 12 then (zdV nm sh args 0).bind fun a => .ret (.ok (zdM (decide (a = 0))))
  else if op = 13 then (zdV nm sh args 0).bind fun a => if a ≠ 0 then zdV nm sh args 1 else zdV nm sh args 2
  else (zdV nm sh args 0).bind fun a => (zdV nm sh args 1).bind fun b => .ret (zjk op ((args.take 2).any sh) a b)
def zdV (nm : List UInt8 -> TM) (sh : Exp -> Bool) : List Exp -> Nat -> TM
 | [], _ => .ret (.error 0)
 | e :: _, 0 => zop nm sh e
 | _ :: r, i + 1 => zdV nm sh r i
end
theorem zpZ {nm sh} : ∀ {l : List Exp} {i : Nat} {e : Exp}, l[i]? = some e -> zdV nm sh l i = zop nm sh e
 | [], _, _, h => by simp at h
 | a :: r, 0, e, h => by simp at h; subst h; rw [zdV]
 | a :: r, i + 1, e, h => by rw [zdV]; exact zpZ (by simpa using h)
theorem zdC (nm sh) (e : Exp) : zop nm sh e = if e.op = 0 then .ret (zex e.n)
  else if e.op = 1 then nm e.s
  else if e.op = 10 then (zdV nm sh e.args 0).bind fun a => if a = 0 then .ret (.ok 0) else (zdV nm sh e.args 1).bind fun b => .ret (.ok (zdM (decide (b ≠ 0))))
  else if e.op = 11 then (zdV nm sh e.args 0).bind fun a => if a ≠ 0 then .ret (.ok 1) else (zdV nm sh e.args 1).bind fun b => .ret (.ok (zdM (decide (b ≠ 0))))
  else if e.op = 12 then (zdV nm sh e.args 0).bind fun a => .ret (.ok (zdM (decide (a = 0))))
  else if e.op = 13 then (zdV nm sh e.args 0).bind fun a => if a ≠ 0 then zdV nm sh e.args 1 else zdV nm sh e.args 2
  else (zdV nm sh e.args 0).bind fun a => (zdV nm sh e.args 1).bind fun b => .ret (zjk e.op ((e.args.take 2).any sh) a b) := by
 cases e with | mk op n u s args => rw [zop]; rfl
def zjX : Except Int Int -> Int × Int × Bool
 | .ok v => (v, 0, true)
 | .error e => (0, e, true)
def zmq (v e : Int) : Except Int Int := if e = 0 then .ok v else .error e
def nmT (lets : List Let) (given : List UInt8 -> Option Int) : Nat -> List UInt8 -> TM
 | 0, s => .ret (match given s with | some v => .ok v | none => .error 13)
 | n + 1, s => match given s with
  | some v => .ret (.ok v)
  | none => match lets[n]? with
   | none => .ret (.error 13)
   | some l => if l.name = s then fun t => match t[n]? with
          | some (v, e, true) => (zmq v e, t)
          | _ => match zop (nmT lets given n) (zdH (lets.take n)) l.body t with
           | (r, t') => (zmq (zjX r).1 (zjX r).2.1, t'.set n (zjX r))
    else nmT lets given n s
def valL (lets : List Let) (given : List UInt8 -> Option Int) (n : Nat) (e : Exp) : TM := zop (nmT lets given n) (zdH (lets.take n)) e
def inC (v : Int) : Prop := -1099511627776 <= v /\ v <= 1099511627776
theorem zkt {n v : Int} (h : zex n = .ok v) : inC v /\ v = n := by
 unfold zex at h;split at h
 ·cases h
 ·cases h; exact ⟨by unfold inC; omega, rfl⟩
theorem ziC {n e : Int} (h : zex n = .error e) : e = 3 := by
 unfold zex at h;split at h <;> cases h;rfl
theorem zsU {a b c v : Int} (h : zhh a b c = .ok v) : inC v := by
 unfold zhh at h;split at h
 ·cases h
 ·exact (zkt h).1
theorem zqo {a b c e : Int} (h : zhh a b c = .error e) : e = 3 := by
 unfold zhh at h;split at h
 ·cases h; rfl
 ·exact ziC h
theorem zgF (b : Bool) : inC (zdM b) := by unfold inC zdM; split <;> omega
theorem zvO {op sh a b v} (ha : inC a) (hb : inC b) (h : zjk op sh a b = .ok v) : inC v := by
 unfold zjk at h
 repeat' split at h
 all_goals first
  | exact (zkt h).1
  | exact zsU h
  | (cases h; done)
  | (cases h; exact zgF _)
  | (cases h; unfold inC at *; omega)
theorem zt4 {op sh a b e} (h : zjk op sh a b = .error e) : e = 3 \/ e = 15 := by
 unfold zjk at h
 repeat' split at h
 all_goals first
  | exact .inl (ziC h)
  | exact .inl (zqo h)
  | (cases h; done)
  | (cases h; exact .inr rfl)
structure TabOK (L : Nat) (t : Tab) : Prop where
 len : t.length = L
 small : ∀ (i : Nat) (v e : Int) (d : Bool), t[i]? = some (v, e, d) -> inC v
def TMok (L : Nat) (f : TM) : Prop := ∀ t, TabOK L t -> TabOK L (f t).2 /\ (∀ v, (f t).1 = .ok v -> inC v) /\ (∀ e, (f t).1 = .error e -> e ≠ 0)
theorem TMok.bind {L f g} (hf : TMok L f) (hg : ∀ a, inC a -> TMok L (g a)) : TMok L (TM.bind f g) := fun t ht => by
 obtain ⟨h1, h2, h3⟩ := hf t ht;unfold TM.bind;rcases hft : f t with ⟨r | v, t'⟩
 ·rw [hft] at h1 h3;refine ⟨h1, ?_, ?_⟩
  ·intro v h; cases h
  ·intro e h; exact h3 e h
 ·rw [hft] at h1 h2;exact hg v (h2 v rfl) t' h1
theorem TMok.ret {L} {x : Except Int Int} (h : ∀ v, x = .ok v -> inC v) (he : ∀ e, x = .error e -> e ≠ 0) : TMok L (TM.ret x) := fun t ht => ⟨ht, h, he⟩
theorem TMok.ok {L} {v : Int} (h : inC v) : TMok L (TM.ret (.ok v)) := .ret (fun w hw => by cases hw; exact h) (fun e he => by cases he)
theorem zmx {L nm sh} (hn : ∀ s, TMok L (nm s)) : ∀ (d : Nat) (e : Exp), zbi d e = true -> TMok L (zop nm sh e)
 | 0, e, h => by simp [zbi] at h
 | d + 1, e, h => by
  obtain ⟨h1, h2, h3, h4⟩ := zdP h;rw [zdC];by_cases c0 : e.op = 0
  ·rw [if_pos c0];exact .ret (fun v hv => (zkt hv).1) (fun e he => by rw [ziC he]; decide)
  rw [if_neg c0];by_cases c1 : e.op = 1
  ·rw [if_pos c1];exact hn _
  rw [if_neg c1];have hA : ∀ i : Nat, (i : Int) < zbX e.op -> TMok L (zdV nm sh e.args i) := fun i hi => by
   have hlt : i < e.args.length := by omega
   rw [zpZ (List.getElem?_eq_getElem hlt)];exact zmx hn d _ (h4 c0 c1 _ (List.getElem_mem hlt))
  have i0 : inC 0 := by unfold inC; omega
  have i1 : inC 1 := by unfold inC; omega
  by_cases c2 : e.op = 10
  ·rw [if_pos c2];rw [c2] at hA;refine .bind (hA 0 (by decide)) fun a ha => ?_;split
   ·exact .ok i0
   ·exact .bind (hA 1 (by decide)) fun b hb => .ok (zgF _)
  rw [if_neg c2];by_cases c3 : e.op = 11
  ·rw [if_pos c3];rw [c3] at hA;refine .bind (hA 0 (by decide)) fun a ha => ?_;split
   ·exact .ok i1
   ·exact .bind (hA 1 (by decide)) fun b hb => .ok (zgF _)
  rw [if_neg c3];by_cases c4 : e.op = 12
  ·rw [if_pos c4];rw [c4] at hA;exact .bind (hA 0 (by decide)) fun a ha => .ok (zgF _)
  rw [if_neg c4];by_cases c5 : e.op = 13
  ·rw [if_pos c5];rw [c5] at hA;refine .bind (hA 0 (by decide)) fun a ha => ?_;split
   ·exact hA 1 (by decide)
   ·exact hA 2 (by decide)
  rw [if_neg c5];have ho : zbX e.op = 2 := by unfold zbX; split <;> first | omega | (split <;> first | omega | (split <;> first | omega | (split <;> omega)))
  rw [ho] at hA;exact .bind (hA 0 (by decide)) fun a ha => .bind (hA 1 (by decide)) fun b hb => .ret (fun v hv => zvO ha hb hv) (fun e he => by rcases zt4 he with h | h <;> omega)
theorem zm7 {r : Except Int Int} (h : ∀ v, r = .ok v -> inC v) : inC (zjX r).1 := by
 cases r with
 | ok v => exact h v rfl
 | error e => show inC 0; unfold inC; omega
theorem zqy {v e : Int} (h : inC v) : ∀ w, zmq v e = .ok w -> inC w := fun w hw => by
 unfold zmq at hw;split at hw
 ·cases hw; exact h
 ·cases hw
theorem znI {v e w : Int} (hw : zmq v e = .error w) : w ≠ 0 := by
 unfold zmq at hw;split at hw
 ·cases hw
 ·rename_i h; cases hw; exact h
theorem zqL {lets : List Let} {given : List UInt8 -> Option Int} (hl : ∀ l ∈ lets, zbi 12 l.body = true) (hg : ∀ s v, given s = some v -> inC v) : ∀ n s, TMok lets.length (nmT lets given n s)
 | 0, s => by
  rw [nmT];cases hgs : given s with
  | some v => exact .ok (hg s v hgs)
  | none => exact .ret (fun v hv => by cases hv) (fun e he => by cases he; decide)
 | n + 1, s => by
  rw [nmT];cases hgs : given s with
  | some v => exact .ok (hg s v hgs)
  | none =>
   simp only;cases hx : lets[n]? with
   | none => exact .ret (fun v hv => by cases hv) (fun e he => by cases he; decide)
   | some l =>
    simp only;split
    ·intro t ht;have main : TabOK lets.length ((zop (nmT lets given n) (zdH (lets.take n)) l.body t).2.set n (zjX (zop (nmT lets given n) (zdH (lets.take n)) l.body t).1)) /\
       (∀ v, zmq (zjX (zop (nmT lets given n) (zdH (lets.take n)) l.body t).1).1 (zjX (zop (nmT lets given n) (zdH (lets.take n)) l.body t).1).2.1 = .ok v -> inC v) /\
       (∀ e, zmq (zjX (zop (nmT lets given n) (zdH (lets.take n)) l.body t).1).1 (zjX (zop (nmT lets given n) (zdH (lets.take n)) l.body t).1).2.1 = .error e -> e ≠ 0) := by
      obtain ⟨g1, g2, g3⟩ := zmx (zqL hl hg n) 12 l.body (hl l (List.mem_of_getElem? hx)) (sh := zdH (lets.take n)) t ht;refine ⟨⟨by rw [List.length_set]; exact g1.len, fun i v e d hi => ?_⟩, zqy (zm7 g2), fun e he => znI he⟩;rw [List.getElem?_set] at hi;split at hi
      ·split at hi
       ·have h5 := zm7 g2;have h6 := Option.some.inj hi;rw [h6] at h5;exact h5
       ·cases hi
      ·exact g1.small i v e d hi
     rcases hti : t[n]? with _ | ⟨v, e, d⟩
     ·simp only [hti]; exact main
     ·cases d
      ·simp only [hti]; exact main
      ·simp only [hti];exact ⟨ht, zqy (ht.small n v e true hti), fun e he => znI he⟩
    ·exact zqL hl hg n s
theorem zmy {lets : List Let} {given : List UInt8 -> Option Int} (hl : ∀ l ∈ lets, zbi 12 l.body = true) (hg : ∀ s v, given s = some v -> inC v) (n d : Nat) (e : Exp) (h : zbi d e = true) : TMok lets.length (valL lets given n e) :=
 zmx (zqL hl hg n) d e h
end Go.Proofs.YtmlpcgkaonifcaaGreatDoor
namespace Go.Proofs.YtmlpcgkaonifcaaGreatDoor
open Go Go.VL
def zq4 : Nat -> List UInt8 -> Nat -> Except (Nat × Int) (List Tok)
 | 0, _, _ => .ok []
 | f + 1, s, p =>
  match (s.drop (p + zdu zc4 (s.drop p))) with
  | [] => .ok [⟨0, [], 0, ((p + zdu zc4 (s.drop p) : Nat) : Int)⟩]
  | c :: r => match zjb (c :: r) with
   | .error e => .error (p + zdu zc4 (s.drop p), e)
   | .ok t => match zq4 f s (p + zdu zc4 (s.drop p) + t.text.length) with
    | .error x => .error x
    | .ok l => .ok ({ t with pos := ((p + zdu zc4 (s.drop p) : Nat) : Int) } :: l)
def zpL (s : List UInt8) : Except (Nat × Int) (List Tok) := if 2000 < s.length then .error (0, 6) else zq4 (s.length + 1) s 0
def zjP : Except (Nat × Int) (List Tok) -> D
 | .ok l => .tup [.u (.sl (l.map fun t => [.int .i64 t.kind, .str t.text, .int .i64 t.n, .int .i64 t.pos])), .u (.int .i64 0), .u (.int .i64 0)]
 | .error (p, e) => .tup [.u (.sl []), .u (.int .i64 p), .u (.int .i64 e)]
def zoF (acc : List Tok) : Except (Nat × Int) (List Tok) -> Except (Nat × Int) (List Tok)
 | .ok l => .ok (acc ++ l)
 | .error x => .error x
theorem zqq (x) : zoF [] x = x := by cases x <;> simp [zoF]
theorem zk7 {p : UInt8 -> Bool} {c : UInt8} {r : List UInt8} (h : p c = true) : 0 < zdu p (c :: r) := by
 unfold zdu; rw [List.takeWhile_cons, if_pos h]; simp
theorem zhl {s : List UInt8} {t : Tok} (h : zjb s = .ok t) : 0 < t.text.length /\ t.text.length <= s.length := by
 unfold zjb at h;split at h
 ·cases h
 ·rename_i c r;by_cases c1 : zdW c = true
  ·rw [if_pos c1] at h;split at h
   ·cases h;have h1 := zk7 (p := zdR) (c := c) (r := r) (by simp [zdR, c1]);have h2 := zez zdR (c :: r);simp only [List.length_take];omega
   ·cases h
  ·rw [if_neg c1] at h;by_cases c2 : zb8 c = true
   ·rw [if_pos c2] at h;split at h
    ·cases h;have h1 := zk7 (p := zb8) (c := c) (r := r) c2;have h2 := zez zb8 (c :: r);simp only [List.length_take];omega
    ·cases h
   ·rw [if_neg c2] at h;split at h
    ·rename_i x hx;cases h;have h1 := List.find?_some hx;have h2 := List.mem_of_find?_eq_some hx;refine ⟨?_, (List.isPrefixOf_iff_prefix.1 h1).length_le⟩;simp only [signsL, List.mem_cons, List.not_mem_nil, or_false] at h2;rcases h2 with h | h | h | h | h | h | h | h | h | h | h <;> subst h <;> simp
    ·cases h
def zk3 (l : List Tok) : List (List D) := l.map fun t => [.u (.int .i64 t.kind), .u (.str t.text), .u (.int .i64 t.n), .u (.int .i64 t.pos)]
theorem zeb (l : List Tok) : (zk3 l).length = l.length := by simp [zk3]
theorem zk2 (l : List Tok) : rowsD (l.map fun t => [U.int .i64 t.kind, .str t.text, .int .i64 t.n, .int .i64 t.pos]) = zk3 l := by simp [rowsD, zk3, Function.comp_def]
theorem zny (l : List Tok) : zct (zk3 l) = some (l.map fun t => [U.int .i64 t.kind, .str t.text, .int .i64 t.n, .int .i64 t.pos]) := by rw [<- zk2]; simp
theorem zij (l) : za7 (zk3 l) = True := by rw [<- zk2]; simp
theorem zhb (n : Nat) (l) : (∀ x ∈ zk3 l, ∀ y ∈ x, D.under n y = true) ↔ True := by
 refine ⟨fun _ => trivial, fun _ x hx y hy => ?_⟩;obtain ⟨b, _, rfl⟩ := List.mem_map.1 hx;simp at hy;rcases hy with rfl | rfl | rfl | rfl <;> simp [D.under]
end Go.Proofs.YtmlpcgkaonifcaaGreatDoor
namespace Go.Proofs.YtmlpcgkaonifcaaGreatDoor
open Go Go.VL
abbrev zqb (l : List Tok) : U := .sl (l.map fun t => [.int .i64 t.kind, .str t.text, .int .i64 t.n, .int .i64 t.pos])
abbrev pOb (l : List Tok) (p : Nat) : Ob := .box [.u (zqb l), .u (.int .i64 p)]
abbrev zuo (l : List Tok) (p : Nat) : U := .row [zqb l, .int .i64 p] 0
structure TokOK (l : List Tok) : Prop where
 fin : ∀ (i : Nat) (t : Tok), l[i]? = some t -> t.kind ≠ 0 -> i + 1 < l.length
 len : l.length <= 1000000
def isB (l : List Tok) (p : Nat) (w : List UInt8) : Bool := match l[p]? with | some t => decide (t.kind ≠ 0) && decide (t.text = w) | none => false
theorem zbR {l : List Tok} {p : Nat} {w : List UInt8} (hl : TokOK l) (h : isB l p w = true) : p + 1 < l.length := by
 unfold isB at h;split at h
 ·rename_i t ht;simp only [Bool.and_eq_true, decide_eq_true_eq] at h;exact hl.fin p t ht h.1
 ·cases h
end Go.Proofs.YtmlpcgkaonifcaaGreatDoor
namespace Go.Proofs.YtmlpcgkaonifcaaGreatDoor
open Go Go.VL
def zty (b : By) (c : List Int) : Bool := zw5 b.lets 2 12 && zms b.due 12 && zms b.fine 12 && zms b.pay 12 && zms b.cover 12 && zms b.hold 12 && decide (b.last <= 12) && decide (c.length <= 9)
end Go.Proofs.YtmlpcgkaonifcaaGreatDoor
namespace Go.Proofs.YtmlpcgkaonifcaaGreatDoor
open Go Go.VL
attribute [local simp] HS zbu zcZ zcp evPure opd uOf zaA St.put St.at getK binD binI binS binB nilD aggD zfv zf5 lookD lookR zcm rangeS Go.VL.nextD Go.VL.nextS zco zge zgb zfp zcv mkV zbf zaS zaR zaQ zcX zaO za8 zbt mapEff zdD ze5 Key.kk shiftI arith unD convD zdq loadD cellsAt fieldAddrD fieldD indexAddrD indexSlD arrAddr indexD sliceD cutD lenD minmaxD nilCheckD buildD fillD zbY zc2 zev setAll zcT zd9 zci zfs zch St.add zaw zbz rowsOf zdf zcx zad zac zaa zbx zc8 zaZ entry zbM zbQ valD zcl zcw zft zdb zdc zb0 zbK zal zaW zbh delAll effD St.effS zcE zaT zaG zcF zaU zaI zbV zaH zaz zbW zcC zbs zbU za5 zbS zbT zar mkD zcj zbD zbI zal zcr D.ids Op.operands Call.operands zbF makeIfD makeFuncD typeAssertD zf4 zdi zdj zfR zcn IntKind.bits zct zay List.take_of_length_le List.range_succ zcN zcc zcO zcI zbB zb1 zb3 zcJ zb5 zbc zb4 zb2 zg4 zcb zcL zaX zaK zcM zaY zaM zca zaL zaD zcR zcS zgB zab frzN frz1 zav zau St.frz St.frzS frzS fv za2 zbn zbo frzObS zat zan frz zbL zbk zbl zbN zb7 zce za6 St.norm St.lp St.only zax wkE wkO wkU Ob.under D.under zaj zak zcP zcd zcQ h4s zd1 zaC zbC List.zipIdx_cons List.zipIdx_nil zzC zzD Nat.zero_add
attribute [local irreducible] V G H HD HD2 HD4 zg6 RetX zbg Eff CallP CallV EndOK Fun Ret FinOK LoopI LoopW EndW HR vs2 RN Cnd H4
theorem zjx (lets : List Let) (e : Exp) : Fun Tryz.prog 140 [.u (zaV lets), zdo e] (· = .u (.bool (zdH lets e))) := by
 have h1 := zrh lets [] e;have hk : okJ lets [] e = zdI lets e := by simp [okJ]
 unfold zdH;unfold zri at h1;rw [hk] at h1;cases hK : zdI lets e
 ·rw [hK] at h1;simp only [zaV, zei, zdo, Bool.false_eq_true, if_false, zzD] at h1 ⊢;refine Fun.run Tryz.func140 Tryz.ntmps140 Tryz.results140 rfl (by simp) fun Γ hn => ?_
  repeat' (first
  | (refine zaf rfl ?_; simp)
  | (refine CallP.f2 rfl (h1) (by first | simp <;> rfl | fail) ?_; simp)
  | fail)
  (refine Pst.of ?_; simp)
 ·rw [hK] at h1;have h2 := zeN (gOf []) (mOf (gOf []) lets) 12 e (zjC hK).2.1;have hg : gOf [] = [] := rfl;rw [hg] at h1 h2;simp only [zaV, zei, zdo, if_true, jU, zzD] at h1 h2 ⊢;generalize zgh (sF (mOf [] lets)) e = r at h2 ⊢;refine Fun.run Tryz.func140 Tryz.ntmps140 Tryz.results140 rfl (by simp) fun Γ hn => ?_
  repeat' (first
  | (refine zaf rfl ?_; simp)
  | ((first | refine CallP.f2 rfl (h1) (by first | simp <;> rfl | fail) ?_ | refine CallP.f2 rfl (h2) (by first | simp <;> rfl | fail) ?_ | fail); simp)
  | fail)
  (refine Pst.of ?_; simp)
def chF (e : Int) : List PanicEntry := [{ v := .iface 163 (.agg #[.int .i64 e]), recovered := false }]
def zdl : Except Int Int -> Out
 | .ok v => .val (.u (.int .i64 v))
 | .error e => .pan (chF e)
theorem zdY (b : Bool) : Fun Tryz.prog 125 [.u (.bool b)] (· = .u (.int .i64 (zdM b))) := by
 cases b
 all_goals
  refine Fun.run Tryz.func125 Tryz.ntmps125 Tryz.results125 rfl (by simp) fun Γ hn => ?_
  repeat' (first
  | (refine zaf rfl ?_; simp)
  | fail)
  (refine Pst.of ?_; simp)
 all_goals (try rfl)
theorem ze1 (n : Int) (nx : Nat) : RetX Tryz.prog 123 [.u (.int .i64 n)] [] nx (fun r o m => r = zdl (zex n) /\ o = [] /\ m = nx) := by
 unfold zex;by_cases h1 : 1099511627776 < n
 ·refine RetX.runW Tryz.func123 Tryz.ntmps123 rfl (by simp) fun Γ hn hpan => ?_
  repeat' (first
  | (refine zaf rfl ?_; simp [h1])
  | fail)
  (refine hpan _ _ (PanG.k ([]) (nx) (by simp [hn] <;> omega) ?_); try simp)
  all_goals try simp [h1, zdl, chF]
 ·by_cases h2 : n < -1099511627776
  ·refine RetX.runW Tryz.func123 Tryz.ntmps123 rfl (by simp) fun Γ hn hpan => ?_
   repeat' (first
  | (refine zaf rfl ?_; simp [h1, h2])
  | fail)
   (refine hpan _ _ (PanG.k ([]) (nx) (by simp [hn] <;> omega) ?_); try simp)
   all_goals try simp [h1, h2, zdl, chF]
  ·refine RetX.runW Tryz.func123 Tryz.ntmps123 rfl (by simp) fun Γ hn hpan => ?_
   repeat' (first
  | (refine zaf rfl ?_; simp [h1, h2])
  | fail)
   (refine EndW.h Tryz.results123 ?_; simp)
   all_goals try simp [h1, h2, zdl]
theorem zhc (a b : Int) (hb : b ≠ 0) : (a.tdiv b).natAbs <= a.natAbs := by
 rw [Int.natAbs_tdiv];exact Nat.div_le_self _ _
theorem zi8 (a b : Int) : (a.tdiv b * b).natAbs <= a.natAbs := by
 rw [Int.natAbs_mul, Int.natAbs_tdiv];exact Nat.div_mul_le_self _ _
theorem ziL (a b : Int) (ha : -1000000000000000000 <= a /\ a <= 1000000000000000000) (hb : b ≠ 0) (hb2 : -1000000000000000000 <= b /\ b <= 1000000000000000000) :
  Fun Tryz.prog 142 [.u (.int .i64 a), .u (.int .i64 b)] (· = .u (.int .i64 (zgT a b))) := by
 have h1 := zhc a b hb;have h2 := zi8 a b;unfold zgT;generalize hq : a.tdiv b = q at *;generalize hp : q * b = p at *;by_cases c1 : p = a
 ·refine Fun.run Tryz.func142 Tryz.ntmps142 Tryz.results142 rfl (by simp) fun Γ hn => ?_
  repeat' (first
  | (refine zaf rfl ?_; simp [hb, hq, hp, c1])
  | (refine And.intro (by omega) ?_)
  | fail)
  (refine Pst.of ?_; simp)
  all_goals try simp [c1]
 ·by_cases c2 : a < 0 <;> by_cases c3 : b < 0
  all_goals
   refine Fun.run Tryz.func142 Tryz.ntmps142 Tryz.results142 rfl (by simp) fun Γ hn => ?_
   repeat' (first
  | (refine zaf rfl ?_; simp [hb, hq, hp, c1, c2, c3])
  | (refine And.intro (by omega) ?_)
  | fail)
   (refine Pst.of ?_; simp)
  all_goals simp [c1, c2, c3]
theorem zoE {a b L : Int} (hL : 0 <= L) (h1 : ¬ L.tdiv (max a (-a)) < b) (h2 : ¬ b < (-L).tdiv (max a (-a))) : -L <= a * b /\ a * b <= L := by
 have hm : (max a (-a)).natAbs = a.natAbs := by omega
 have h3 : (L.tdiv (max a (-a))).natAbs * a.natAbs <= L.natAbs := by
  rw [Int.natAbs_tdiv, hm];exact Nat.div_mul_le_self _ _
 have h4 : ((-L).tdiv (max a (-a))).natAbs * a.natAbs <= L.natAbs := by
  rw [Int.natAbs_tdiv, hm, Int.natAbs_neg];exact Nat.div_mul_le_self _ _
 have h5 : b.natAbs <= max (L.tdiv (max a (-a))).natAbs ((-L).tdiv (max a (-a))).natAbs := by omega
 have h6 : (a * b).natAbs <= L.natAbs := by
  rw [Int.natAbs_mul, Nat.mul_comm];refine Nat.le_trans (Nat.mul_le_mul_right _ h5) ?_;rcases Nat.le_total (L.tdiv (max a (-a))).natAbs ((-L).tdiv (max a (-a))).natAbs with h | h
  ·rw [Nat.max_eq_right h]; exact h4
  ·rw [Nat.max_eq_left h]; exact h3
 omega
theorem zgq (a b c : Int) (nx : Nat) (ha : inC a) (hb : inC b) (hc : 1 <= c /\ c <= 1000) :
  RetX Tryz.prog 141 [.u (.int .i64 a), .u (.int .i64 b), .u (.int .i64 c)] [] nx (fun r o m => r = zdl (zhh a b c) /\ o = [] /\ m = nx) := by
 unfold inC at ha hb;unfold zhh;have hm : a ≠ 0 -> max a (-a) ≠ 0 := by omega
 have hL := zoE (a := a) (b := b) (L := 1099511627777 * c) (by omega);have q1 := zhc (1099511627777 * c) (max a (-a));have q2 := zhc (-(1099511627777 * c)) (max a (-a));generalize hl : (1099511627777 * c : Int) = L at *;generalize hM : max a (-a) = M at *;generalize hq1 : L.tdiv M = Q1 at *;generalize hq2 : (-L).tdiv M = Q2 at *;by_cases c0 : a = 0
 ·subst c0;have hf := ziL 0 c (by omega) (by omega) (by omega);have hck := fun nx' => ze1 (zgT 0 c) nx';rw [if_neg (by simp)];simp only [Int.zero_mul];cases hk : zex (zgT 0 c) with
  | ok v =>
   simp only [hk, zdl] at hck ⊢;refine RetX.runW Tryz.func141 Tryz.ntmps141 rfl (by simp) fun Γ hn hpan => ?_
   repeat' (first
  | (refine zaf rfl ?_; simp [hl, hM, hq1, hq2])
  | (refine And.intro (by omega) ?_)
  | (refine CallP.f2 rfl (hf) (by first | simp [hl, hM, hq1, hq2] <;> rfl | fail) ?_; simp [hl, hM, hq1, hq2])
  | (refine CallP.okL (hck _) (by first | (simp [hl, hM, hq1, hq2, zaa, getK, zab, zac, zad, zar, del]; done) | fail) (by rfl) (by first | assumption | (simp; done) | fail) (by rfl) (by simp) ?_; (try simp [hl, hM, hq1, hq2, zc0, del]))
  | fail)
   (refine EndW.h Tryz.results141 ?_; simp)
  | error e =>
   simp only [hk, zdl] at hck ⊢;refine RetX.runW Tryz.func141 Tryz.ntmps141 rfl (by simp) fun Γ hn hpan => ?_
   repeat' (first
  | (refine zaf rfl ?_; simp [hl, hM, hq1, hq2])
  | (refine And.intro (by omega) ?_)
  | (refine CallP.f2 rfl (hf) (by first | simp [hl, hM, hq1, hq2] <;> rfl | fail) ?_; simp [hl, hM, hq1, hq2])
  | (refine CallP.zkQ (hck _) (by first | (simp [hl, hM, hq1, hq2, zaa, getK, zab, zac, zad, zar, del]; done) | fail) (by rfl) (by first | assumption | (simp; done) | fail) (by rfl) (by simp) ?_; refine ⟨_, Wk.refl _, ?_⟩; (try simp [hl, hM, hq1, hq2, zc0, del]))
  | fail)
   (refine hpan _ _ (PanG.k ([]) (nx) (by simp [hn] <;> omega) ?_); try simp)
 have hM0 := hm c0;have q1 := q1 hM0;have q2 := q2 hM0;by_cases c1 : Q1 < b
 ·rw [if_pos ⟨c0, .inl c1⟩];refine RetX.runW Tryz.func141 Tryz.ntmps141 rfl (by simp) fun Γ hn hpan => ?_
  repeat' (first
  | (refine zaf rfl ?_; simp [c0, c1, hl, hM, hM0, hq1, hq2])
  | (refine And.intro (by omega) ?_)
  | fail)
  (refine hpan _ _ (PanG.k ([]) (nx) (by simp [hn] <;> omega) ?_); try simp)
  all_goals (try simp [zdl, chF])
 by_cases c2 : b < Q2
 ·rw [if_pos ⟨c0, .inr c2⟩];refine RetX.runW Tryz.func141 Tryz.ntmps141 rfl (by simp) fun Γ hn hpan => ?_
  repeat' (first
  | (refine zaf rfl ?_; simp [c0, c1, c2, hl, hM, hM0, hq1, hq2])
  | (refine And.intro (by omega) ?_)
  | fail)
  (refine hpan _ _ (PanG.k ([]) (nx) (by simp [hn] <;> omega) ?_); try simp)
  all_goals (try simp [zdl, chF])
 rw [if_neg (by rintro ⟨_, h | h⟩ <;> contradiction)];obtain ⟨hL1, hL2⟩ := hL c1 c2;have hf := ziL (a * b) c (by omega) (by omega) (by omega);have hck := fun nx' => ze1 (zgT (a * b) c) nx';cases hk : zex (zgT (a * b) c) with
 | ok v =>
  simp only [hk, zdl] at hck ⊢;refine RetX.runW Tryz.func141 Tryz.ntmps141 rfl (by simp) fun Γ hn hpan => ?_
  repeat' (first
  | (refine zaf rfl ?_; simp [c0, c1, c2, hl, hM, hM0, hq1, hq2])
  | (refine And.intro (by omega) ?_)
  | (refine CallP.f2 rfl (hf) (by first | simp [c0, c1, c2, hl, hM, hM0, hq1, hq2] <;> rfl | fail) ?_; simp [c0, c1, c2, hl, hM, hM0, hq1, hq2])
  | (refine CallP.okL (hck _) (by first | (simp [c0, c1, c2, hl, hM, hM0, hq1, hq2, zaa, getK, zab, zac, zad, zar, del]; done) | fail) (by rfl) (by first | assumption | (simp; done) | fail) (by rfl) (by simp) ?_; (try simp [c0, c1, c2, hl, hM, hM0, hq1, hq2, zc0, del]))
  | fail)
  (refine EndW.h Tryz.results141 ?_; simp)
 | error e =>
  simp only [hk, zdl] at hck ⊢;refine RetX.runW Tryz.func141 Tryz.ntmps141 rfl (by simp) fun Γ hn hpan => ?_
  repeat' (first
  | (refine zaf rfl ?_; simp [c0, c1, c2, hl, hM, hM0, hq1, hq2])
  | (refine And.intro (by omega) ?_)
  | (refine CallP.f2 rfl (hf) (by first | simp [c0, c1, c2, hl, hM, hM0, hq1, hq2] <;> rfl | fail) ?_; simp [c0, c1, c2, hl, hM, hM0, hq1, hq2])
  | (refine CallP.zkQ (hck _) (by first | (simp [c0, c1, c2, hl, hM, hM0, hq1, hq2, zaa, getK, zab, zac, zad, zar, del]; done) | fail) (by rfl) (by first | assumption | (simp; done) | fail) (by rfl) (by simp) ?_; refine ⟨_, Wk.refl _, ?_⟩; (try simp [c0, c1, c2, hl, hM, hM0, hq1, hq2, zc0, del]))
  | fail)
  (refine hpan _ _ (PanG.k ([]) (nx) (by simp [hn] <;> omega) ?_); try simp)
abbrev mOb (lets : List Let) (r : Nat) (g : GM) : Ob := .box [.u (zaV lets), .vec r lets.length, .u (.map .s false (zrs g))]
theorem zpH (lets : List Let) (r : Nat) (g : GM) (m nx : Nat) (hm : m < nx) (hr : r < nx) (e x y : Exp) (a b : Int) (n : Nat) (hnl : n <= lets.length) (hl : lets.length <= 20) (he : e.args = [x, y]) (ha : inC a) (hb : inC b)
  (hop : 2 <= e.op /\ e.op <= 9) :
  RetX Tryz.prog 126 [.ptr m 0, zdo e, .u (.int .i64 a), .u (.int .i64 b), .u (.int .i64 n)] [(m, mOb lets r g)] nx
   (fun o obs n' => o = zdl (zjk e.op (zdH (lets.take n) x || zdH (lets.take n) y) a b) /\ obs = [(m, mOb lets r g)] /\ n' = nx) := by
 have hne := nef hm;have hab := ha;have hbb := hb;unfold inC at ha hb;have hf := zdY true;unfold mOb zaV zdo;rw [he];simp only [zzC, zzD];by_cases c : e.op = 2
 ·obtain ⟨Z, hZ⟩ : ∃ Z, a + b = Z := ⟨_, rfl⟩;have hck := fun nx' => ze1 Z nx';rw [c, show ∀ sh, zjk 2 sh a b = zex Z from fun sh => by rw [<- hZ]; rfl];cases hk : zex Z with
  | ok v =>
   simp only [hk, zdl] at hck ⊢;refine RetX.runW Tryz.func126 Tryz.ntmps126 rfl (by simp) fun Γ hn hpan => ?_
   repeat' (first
  | (refine zaf rfl ?_; simp [c, hne, hZ])
  | (refine And.intro (by omega) ?_)
  | (refine CallP.okL (hck _) (by first | (simp [c, hne, hZ, zaa, getK, zab, zac, zad, zar, del]; done) | fail) (by rfl) (by first | assumption | (simp; done) | fail) (by rfl) (by simp) ?_; (try simp [c, hne, hZ, zc0, del]))
  | fail)
   (refine EndW.z ([(m, mOb lets r g)]) (N := nx) Tryz.results126 (by simp [hne, hm, hr, zaV] <;> omega) ?_; simp [hne, hm, hr, zaV])
   all_goals rfl
  | error err =>
   simp only [hk, zdl] at hck ⊢;refine RetX.runW Tryz.func126 Tryz.ntmps126 rfl (by simp) fun Γ hn hpan => ?_
   repeat' (first
  | (refine zaf rfl ?_; simp [c, hne, hZ])
  | (refine And.intro (by omega) ?_)
  | (refine CallP.zkQ (hck _) (by first | (simp [c, hne, hZ, zaa, getK, zab, zac, zad, zar, del]; done) | fail) (by rfl) (by first | assumption | (simp; done) | fail) (by rfl) (by simp) ?_; refine ⟨_, Wk.refl _, ?_⟩; (try simp [c, hne, hZ, zc0, del]))
  | fail)
   (refine hpan _ _ (PanG.k ([(m, mOb lets r g)]) (nx) (by simp [hn, hm, hr, hne, zaV, zab, zac, zaa, getK] <;> omega) ?_); try simp)
   all_goals rfl
 by_cases c : e.op = 3
 ·obtain ⟨Z, hZ⟩ : ∃ Z, a - b = Z := ⟨_, rfl⟩;have hck := fun nx' => ze1 Z nx';rw [c, show ∀ sh, zjk 3 sh a b = zex Z from fun sh => by rw [<- hZ]; rfl];cases hk : zex Z with
  | ok v =>
   simp only [hk, zdl] at hck ⊢;refine RetX.runW Tryz.func126 Tryz.ntmps126 rfl (by simp) fun Γ hn hpan => ?_
   repeat' (first
  | (refine zaf rfl ?_; simp [c, hne, hZ])
  | (refine And.intro (by omega) ?_)
  | (refine CallP.okL (hck _) (by first | (simp [c, hne, hZ, zaa, getK, zab, zac, zad, zar, del]; done) | fail) (by rfl) (by first | assumption | (simp; done) | fail) (by rfl) (by simp) ?_; (try simp [c, hne, hZ, zc0, del]))
  | fail)
   (refine EndW.z ([(m, mOb lets r g)]) (N := nx) Tryz.results126 (by simp [hne, hm, hr, zaV] <;> omega) ?_; simp [hne, hm, hr, zaV])
   all_goals rfl
  | error err =>
   simp only [hk, zdl] at hck ⊢;refine RetX.runW Tryz.func126 Tryz.ntmps126 rfl (by simp) fun Γ hn hpan => ?_
   repeat' (first
  | (refine zaf rfl ?_; simp [c, hne, hZ])
  | (refine And.intro (by omega) ?_)
  | (refine CallP.zkQ (hck _) (by first | (simp [c, hne, hZ, zaa, getK, zab, zac, zad, zar, del]; done) | fail) (by rfl) (by first | assumption | (simp; done) | fail) (by rfl) (by simp) ?_; refine ⟨_, Wk.refl _, ?_⟩; (try simp [c, hne, hZ, zc0, del]))
  | fail)
   (refine hpan _ _ (PanG.k ([(m, mOb lets r g)]) (nx) (by simp [hn, hm, hr, hne, zaV, zab, zac, zaa, getK] <;> omega) ?_); try simp)
   all_goals rfl
 by_cases c : e.op = 4
 ·have hs1 := zjx (lets.take n) x;have hs2 := zjx (lets.take n) y;rw [c];simp only [zaV, List.map_take, zdo] at hs1 hs2;rw [Exp.row_eq x, Exp.row_eq y];cases hx : zdH (lets.take n) x
  ·rw [hx] at hs1;cases hy : zdH (lets.take n) y
   ·rw [hy] at hs2;have hck := fun nx' => zgq a b 1 nx' hab hbb (by omega);rw [show zjk 4 (false || false) a b = zhh a b 1 from rfl];cases hk : zhh a b 1 with
    | ok v =>
     simp only [hk, zdl] at hck ⊢;refine RetX.runW Tryz.func126 Tryz.ntmps126 rfl (by simp) fun Γ hn hpan => ?_
     repeat' (first
  | (refine zaf rfl ?_; simp [c, hne, del])
  | (refine And.intro (by omega) ?_)
  | (refine ⟨hC _ (zb6 [m] nx (by simp <;> omega) (by simp <;> omega) (by apply Exists.intro; apply And.intro; (focus (repeat' (first | exact KF.nil | exact KL.nil | apply KF.cons | apply KL.cons 0 rfl | apply KL.cons 1 rfl | apply KL.cons 2 rfl | apply KL.cons 3 rfl | apply KL.cons 4 rfl | apply KL.cons 5 rfl | apply KL.cons 6 rfl | apply KL.cons 7 rfl | apply KL.cons 8 rfl | apply KL.cons 9 rfl))); kernel_rfl)), hk _ (zdG 8 _ _ _ ?_)⟩; clear hC hk C k; simp [c, hne, del])
  | (refine zdv rfl (by kernel_rfl) (by first | (simp [hn] <;> omega) | fail) fun C k hC hk => ?_; simp [c, hne, del])
  | (refine zcB rfl ?_; simp [c, hne, del])
  | (refine zbP rfl ?_; simp [c, hne, del])
  | (refine zdh rfl ?_; simp [c, hne, del])
  | ((first | refine CallV.f2 rfl (hs1) (by first | simp [c, hne, del] <;> rfl | fail) ?_ | refine CallV.f2 rfl (hs2) (by first | simp [c, hne, del] <;> rfl | fail) ?_ | fail); simp [c, hne, del])
  | (refine CallP.okL (hck _) (by first | (simp [c, hne, del, zaa, getK, zab, zac, zad, zar, del]; done) | fail) (by rfl) (by first | assumption | (simp; done) | fail) (by rfl) (by simp) ?_; (try simp [c, hne, del, zc0, del]))
  | fail)
     (refine EndW.z ([(m, mOb lets r g)]) (N := nx) Tryz.results126 (by simp [hne, hm, hr, zaV] <;> omega) ?_; simp [hne, hm, hr, zaV])
     all_goals rfl
    | error err =>
     simp only [hk, zdl] at hck ⊢;refine RetX.runW Tryz.func126 Tryz.ntmps126 rfl (by simp) fun Γ hn hpan => ?_
     repeat' (first
  | (refine zaf rfl ?_; simp [c, hne, del])
  | (refine And.intro (by omega) ?_)
  | (refine ⟨hC _ (zb6 [m] nx (by simp <;> omega) (by simp <;> omega) (by apply Exists.intro; apply And.intro; (focus (repeat' (first | exact KF.nil | exact KL.nil | apply KF.cons | apply KL.cons 0 rfl | apply KL.cons 1 rfl | apply KL.cons 2 rfl | apply KL.cons 3 rfl | apply KL.cons 4 rfl | apply KL.cons 5 rfl | apply KL.cons 6 rfl | apply KL.cons 7 rfl | apply KL.cons 8 rfl | apply KL.cons 9 rfl))); kernel_rfl)), hk _ (zdG 8 _ _ _ ?_)⟩; clear hC hk C k; simp [c, hne, del])
  | (refine zdv rfl (by kernel_rfl) (by first | (simp [hn] <;> omega) | fail) fun C k hC hk => ?_; simp [c, hne, del])
  | (refine zcB rfl ?_; simp [c, hne, del])
  | (refine zbP rfl ?_; simp [c, hne, del])
  | (refine zdh rfl ?_; simp [c, hne, del])
  | ((first | refine CallV.f2 rfl (hs1) (by first | simp [c, hne, del] <;> rfl | fail) ?_ | refine CallV.f2 rfl (hs2) (by first | simp [c, hne, del] <;> rfl | fail) ?_ | fail); simp [c, hne, del])
  | (refine CallP.zkQ (hck _) (by first | (simp [c, hne, del, zaa, getK, zab, zac, zad, zar, del]; done) | fail) (by rfl) (by first | assumption | (simp; done) | fail) (by rfl) (by simp) ?_; refine ⟨_, Wk.refl _, ?_⟩; (try simp [c, hne, del, zc0, del]))
  | fail)
     (refine hpan _ _ (PanG.k ([(m, mOb lets r g)]) (nx) (by simp [hn, hm, hr, hne, zaV, zab, zac, zaa, getK] <;> omega) ?_); try simp)
     all_goals rfl
   ·rw [hy] at hs2;have hck := fun nx' => zgq a b 1000 nx' hab hbb (by omega);rw [show zjk 4 (false || true) a b = zhh a b 1000 from rfl];cases hk : zhh a b 1000 with
    | ok v =>
     simp only [hk, zdl] at hck ⊢;refine RetX.runW Tryz.func126 Tryz.ntmps126 rfl (by simp) fun Γ hn hpan => ?_
     repeat' (first
  | (refine zaf rfl ?_; simp [c, hne, del])
  | (refine And.intro (by omega) ?_)
  | (refine ⟨hC _ (zb6 [m] nx (by simp <;> omega) (by simp <;> omega) (by apply Exists.intro; apply And.intro; (focus (repeat' (first | exact KF.nil | exact KL.nil | apply KF.cons | apply KL.cons 0 rfl | apply KL.cons 1 rfl | apply KL.cons 2 rfl | apply KL.cons 3 rfl | apply KL.cons 4 rfl | apply KL.cons 5 rfl | apply KL.cons 6 rfl | apply KL.cons 7 rfl | apply KL.cons 8 rfl | apply KL.cons 9 rfl))); kernel_rfl)), hk _ (zdG 8 _ _ _ ?_)⟩; clear hC hk C k; simp [c, hne, del])
  | (refine zdv rfl (by kernel_rfl) (by first | (simp [hn] <;> omega) | fail) fun C k hC hk => ?_; simp [c, hne, del])
  | (refine zcB rfl ?_; simp [c, hne, del])
  | (refine zbP rfl ?_; simp [c, hne, del])
  | (refine zdh rfl ?_; simp [c, hne, del])
  | ((first | refine CallV.f2 rfl (hs1) (by first | simp [c, hne, del] <;> rfl | fail) ?_ | refine CallV.f2 rfl (hs2) (by first | simp [c, hne, del] <;> rfl | fail) ?_ | fail); simp [c, hne, del])
  | (refine CallP.okL (hck _) (by first | (simp [c, hne, del, zaa, getK, zab, zac, zad, zar, del]; done) | fail) (by rfl) (by first | assumption | (simp; done) | fail) (by rfl) (by simp) ?_; (try simp [c, hne, del, zc0, del]))
  | fail)
     (refine EndW.z ([(m, mOb lets r g)]) (N := nx) Tryz.results126 (by simp [hne, hm, hr, zaV] <;> omega) ?_; simp [hne, hm, hr, zaV])
     all_goals rfl
    | error err =>
     simp only [hk, zdl] at hck ⊢;refine RetX.runW Tryz.func126 Tryz.ntmps126 rfl (by simp) fun Γ hn hpan => ?_
     repeat' (first
  | (refine zaf rfl ?_; simp [c, hne, del])
  | (refine And.intro (by omega) ?_)
  | (refine ⟨hC _ (zb6 [m] nx (by simp <;> omega) (by simp <;> omega) (by apply Exists.intro; apply And.intro; (focus (repeat' (first | exact KF.nil | exact KL.nil | apply KF.cons | apply KL.cons 0 rfl | apply KL.cons 1 rfl | apply KL.cons 2 rfl | apply KL.cons 3 rfl | apply KL.cons 4 rfl | apply KL.cons 5 rfl | apply KL.cons 6 rfl | apply KL.cons 7 rfl | apply KL.cons 8 rfl | apply KL.cons 9 rfl))); kernel_rfl)), hk _ (zdG 8 _ _ _ ?_)⟩; clear hC hk C k; simp [c, hne, del])
  | (refine zdv rfl (by kernel_rfl) (by first | (simp [hn] <;> omega) | fail) fun C k hC hk => ?_; simp [c, hne, del])
  | (refine zcB rfl ?_; simp [c, hne, del])
  | (refine zbP rfl ?_; simp [c, hne, del])
  | (refine zdh rfl ?_; simp [c, hne, del])
  | ((first | refine CallV.f2 rfl (hs1) (by first | simp [c, hne, del] <;> rfl | fail) ?_ | refine CallV.f2 rfl (hs2) (by first | simp [c, hne, del] <;> rfl | fail) ?_ | fail); simp [c, hne, del])
  | (refine CallP.zkQ (hck _) (by first | (simp [c, hne, del, zaa, getK, zab, zac, zad, zar, del]; done) | fail) (by rfl) (by first | assumption | (simp; done) | fail) (by rfl) (by simp) ?_; refine ⟨_, Wk.refl _, ?_⟩; (try simp [c, hne, del, zc0, del]))
  | fail)
     (refine hpan _ _ (PanG.k ([(m, mOb lets r g)]) (nx) (by simp [hn, hm, hr, hne, zaV, zab, zac, zaa, getK] <;> omega) ?_); try simp)
     all_goals rfl
  ·rw [hx] at hs1;have hck := fun nx' => zgq a b 1000 nx' hab hbb (by omega);rw [show ∀ z, zjk 4 (true || z) a b = zhh a b 1000 from fun z => rfl];cases hk : zhh a b 1000 with
   | ok v =>
    simp only [hk, zdl] at hck ⊢;refine RetX.runW Tryz.func126 Tryz.ntmps126 rfl (by simp) fun Γ hn hpan => ?_
    repeat' (first
  | (refine zaf rfl ?_; simp [c, hne, del])
  | (refine And.intro (by omega) ?_)
  | (refine ⟨hC _ (zb6 [m] nx (by simp <;> omega) (by simp <;> omega) (by apply Exists.intro; apply And.intro; (focus (repeat' (first | exact KF.nil | exact KL.nil | apply KF.cons | apply KL.cons 0 rfl | apply KL.cons 1 rfl | apply KL.cons 2 rfl | apply KL.cons 3 rfl | apply KL.cons 4 rfl | apply KL.cons 5 rfl | apply KL.cons 6 rfl | apply KL.cons 7 rfl | apply KL.cons 8 rfl | apply KL.cons 9 rfl))); kernel_rfl)), hk _ (zdG 8 _ _ _ ?_)⟩; clear hC hk C k; simp [c, hne, del])
  | (refine zdv rfl (by kernel_rfl) (by first | (simp [hn] <;> omega) | fail) fun C k hC hk => ?_; simp [c, hne, del])
  | (refine zcB rfl ?_; simp [c, hne, del])
  | (refine zbP rfl ?_; simp [c, hne, del])
  | ((first | refine CallV.f2 rfl (hs1) (by first | simp [c, hne, del] <;> rfl | fail) ?_ | refine CallV.f2 rfl (hs2) (by first | simp [c, hne, del] <;> rfl | fail) ?_ | fail); simp [c, hne, del])
  | (refine CallP.okL (hck _) (by first | (simp [c, hne, del, zaa, getK, zab, zac, zad, zar, del]; done) | fail) (by rfl) (by first | assumption | (simp; done) | fail) (by rfl) (by simp) ?_; (try simp [c, hne, del, zc0, del]))
  | fail)
    (refine EndW.z ([(m, mOb lets r g)]) (N := nx) Tryz.results126 (by simp [hne, hm, hr, zaV] <;> omega) ?_; simp [hne, hm, hr, zaV])
    all_goals rfl
   | error err =>
    simp only [hk, zdl] at hck ⊢;refine RetX.runW Tryz.func126 Tryz.ntmps126 rfl (by simp) fun Γ hn hpan => ?_
    repeat' (first
  | (refine zaf rfl ?_; simp [c, hne, del])
  | (refine And.intro (by omega) ?_)
  | (refine ⟨hC _ (zb6 [m] nx (by simp <;> omega) (by simp <;> omega) (by apply Exists.intro; apply And.intro; (focus (repeat' (first | exact KF.nil | exact KL.nil | apply KF.cons | apply KL.cons 0 rfl | apply KL.cons 1 rfl | apply KL.cons 2 rfl | apply KL.cons 3 rfl | apply KL.cons 4 rfl | apply KL.cons 5 rfl | apply KL.cons 6 rfl | apply KL.cons 7 rfl | apply KL.cons 8 rfl | apply KL.cons 9 rfl))); kernel_rfl)), hk _ (zdG 8 _ _ _ ?_)⟩; clear hC hk C k; simp [c, hne, del])
  | (refine zdv rfl (by kernel_rfl) (by first | (simp [hn] <;> omega) | fail) fun C k hC hk => ?_; simp [c, hne, del])
  | (refine zcB rfl ?_; simp [c, hne, del])
  | (refine zbP rfl ?_; simp [c, hne, del])
  | ((first | refine CallV.f2 rfl (hs1) (by first | simp [c, hne, del] <;> rfl | fail) ?_ | refine CallV.f2 rfl (hs2) (by first | simp [c, hne, del] <;> rfl | fail) ?_ | fail); simp [c, hne, del])
  | (refine CallP.zkQ (hck _) (by first | (simp [c, hne, del, zaa, getK, zab, zac, zad, zar, del]; done) | fail) (by rfl) (by first | assumption | (simp; done) | fail) (by rfl) (by simp) ?_; refine ⟨_, Wk.refl _, ?_⟩; (try simp [c, hne, del, zc0, del]))
  | fail)
    (refine hpan _ _ (PanG.k ([(m, mOb lets r g)]) (nx) (by simp [hn, hm, hr, hne, zaV, zab, zac, zaa, getK] <;> omega) ?_); try simp)
    all_goals rfl
 by_cases c : e.op = 5
 ·rw [c];by_cases hb0 : b = 0
  ·rw [show ∀ sh, zjk 5 sh a b = .error 15 from fun sh => by rw [hb0]; rfl];simp only [zdl, chF];refine RetX.runW Tryz.func126 Tryz.ntmps126 rfl (by simp) fun Γ hn hpan => ?_
   repeat' (first
  | (refine zaf rfl ?_; simp [c, hne, hb0])
  | fail)
   (refine hpan _ _ (PanG.k ([(m, mOb lets r g)]) (nx) (by simp [hn, hm, hr, hne, zaV, zab, zac, zaa, getK] <;> omega) ?_); try simp)
   all_goals rfl
  ·obtain ⟨Z, hZ⟩ : ∃ Z, zgT a b = Z := ⟨_, rfl⟩;have hck := fun nx' => ze1 Z nx';have hf := ziL a b (by omega) hb0 (by omega);rw [hZ] at hf;rw [show ∀ sh, zjk 5 sh a b = zex Z from fun sh => by rw [<- hZ]; simp [zjk, hb0]];cases hk : zex Z with
   | ok v =>
    simp only [hk, zdl] at hck ⊢;refine RetX.runW Tryz.func126 Tryz.ntmps126 rfl (by simp) fun Γ hn hpan => ?_
    repeat' (first
  | (refine zaf rfl ?_; simp [c, hne, hb0])
  | (refine CallP.f2 rfl (hf) (by first | simp [c, hne, hb0] <;> rfl | fail) ?_; simp [c, hne, hb0])
  | (refine CallP.okL (hck _) (by first | (simp [c, hne, hb0, zaa, getK, zab, zac, zad, zar, del]; done) | fail) (by rfl) (by first | assumption | (simp; done) | fail) (by rfl) (by simp) ?_; (try simp [c, hne, hb0, zc0, del]))
  | fail)
    (refine EndW.z ([(m, mOb lets r g)]) (N := nx) Tryz.results126 (by simp [hne, hm, hr, zaV] <;> omega) ?_; simp [hne, hm, hr, zaV])
    all_goals rfl
   | error err =>
    simp only [hk, zdl] at hck ⊢;refine RetX.runW Tryz.func126 Tryz.ntmps126 rfl (by simp) fun Γ hn hpan => ?_
    repeat' (first
  | (refine zaf rfl ?_; simp [c, hne, hb0])
  | (refine CallP.f2 rfl (hf) (by first | simp [c, hne, hb0] <;> rfl | fail) ?_; simp [c, hne, hb0])
  | (refine CallP.zkQ (hck _) (by first | (simp [c, hne, hb0, zaa, getK, zab, zac, zad, zar, del]; done) | fail) (by rfl) (by first | assumption | (simp; done) | fail) (by rfl) (by simp) ?_; refine ⟨_, Wk.refl _, ?_⟩; (try simp [c, hne, hb0, zc0, del]))
  | fail)
    (refine hpan _ _ (PanG.k ([(m, mOb lets r g)]) (nx) (by simp [hn, hm, hr, hne, zaV, zab, zac, zaa, getK] <;> omega) ?_); try simp)
    all_goals rfl
 have ht := zdY (decide (a < b));by_cases c : e.op = 6
 ·rw [c, show ∀ sh, zjk 6 sh a b = .ok (min a b) from fun sh => rfl];simp only [zdl];refine RetX.runW Tryz.func126 Tryz.ntmps126 rfl (by simp) fun Γ hn hpan => ?_
  repeat' (first
  | (refine zaf rfl ?_; simp [c, hne])
  | fail)
  (refine EndW.z ([(m, mOb lets r g)]) (N := nx) Tryz.results126 (by simp [hne, hm, hr, zaV] <;> omega) ?_; simp [hne, hm, hr, zaV])
  all_goals rfl
 by_cases c : e.op = 7
 ·rw [c, show ∀ sh, zjk 7 sh a b = .ok (max a b) from fun sh => rfl];simp only [zdl];refine RetX.runW Tryz.func126 Tryz.ntmps126 rfl (by simp) fun Γ hn hpan => ?_
  repeat' (first
  | (refine zaf rfl ?_; simp [c, hne])
  | fail)
  (refine EndW.z ([(m, mOb lets r g)]) (N := nx) Tryz.results126 (by simp [hne, hm, hr, zaV] <;> omega) ?_; simp [hne, hm, hr, zaV])
  all_goals rfl
 by_cases c : e.op = 8
 ·rw [c, show ∀ sh, zjk 8 sh a b = .ok (zdM (decide (a < b))) from fun sh => rfl];simp only [zdl];refine RetX.runW Tryz.func126 Tryz.ntmps126 rfl (by simp) fun Γ hn hpan => ?_
  repeat' (first
  | (refine zaf rfl ?_; simp [c, hne])
  | (refine CallP.f2 rfl (ht) (by first | simp [c, hne] <;> rfl | fail) ?_; simp [c, hne])
  | fail)
  (refine EndW.z ([(m, mOb lets r g)]) (N := nx) Tryz.results126 (by simp [hne, hm, hr, zaV] <;> omega) ?_; simp [hne, hm, hr, zaV])
  all_goals rfl
 have c : e.op = 9 := by omega
 have ht := zdY (decide (a = b));rw [c, show ∀ sh, zjk 9 sh a b = .ok (zdM (decide (a = b))) from fun sh => rfl];simp only [zdl];refine RetX.runW Tryz.func126 Tryz.ntmps126 rfl (by simp) fun Γ hn hpan => ?_
 repeat' (first
  | (refine zaf rfl ?_; simp [c, hne])
  | (refine CallP.f2 rfl (ht) (by first | simp [c, hne] <;> rfl | fail) ?_; simp [c, hne])
  | fail)
 (refine EndW.z ([(m, mOb lets r g)]) (N := nx) Tryz.results126 (by simp [hne, hm, hr, zaV] <;> omega) ?_; simp [hne, hm, hr, zaV])
 all_goals rfl
end Go.Proofs.YtmlpcgkaonifcaaGreatDoor
namespace Go.Proofs.YtmlpcgkaonifcaaGreatDoor
open Go Go.VL
section
variable {lets : List Let} {G : List UInt8 -> Option Int} {n : Nat} {e x y z : Exp} {t t1 t2 : Tab}
theorem zsw (h : e.op = 0) : valL lets G n e t = (zex e.n, t) := by unfold valL; rw [zdC, if_pos h]; rfl
theorem zp0 (h : e.op = 1) : valL lets G n e t = nmT lets G n e.s t := by unfold valL; rw [zdC, if_neg (by omega), if_pos h]
theorem zgD {l : List Exp} {er : Int} (h0 : e.op ≠ 0) (h1 : e.op ≠ 1) (ha : e.args = x :: l) (hx : valL lets G n x t = (.error er, t1)) : valL lets G n e t = (.error er, t1) := by
 unfold valL at *;rw [zdC, if_neg h0, if_neg h1, ha, zdV]
 repeat' split
 all_goals exact TM.zh3 hx
theorem zp3 {l : List Exp} (h : e.op = 10) (ha : e.args = x :: l) (hx : valL lets G n x t = (.ok 0, t1)) : valL lets G n e t = (.ok 0, t1) := by
 unfold valL at *;rw [zdC, if_neg (by omega), if_neg (by omega), if_pos h, ha, zdV, TM.bind_ok hx, if_pos rfl]; rfl
theorem zp2 {a er : Int} (h : e.op = 10) (ha : e.args = [x, y]) (hx : valL lets G n x t = (.ok a, t1)) (h0 : a ≠ 0) (hy : valL lets G n y t1 = (.error er, t2)) : valL lets G n e t = (.error er, t2) := by
 unfold valL at *;rw [zdC, if_neg (by omega), if_neg (by omega), if_pos h, ha, zdV, TM.bind_ok hx, if_neg h0, zdV, zdV, TM.zh3 hy]
theorem zsB {a b : Int} (h : e.op = 10) (ha : e.args = [x, y]) (hx : valL lets G n x t = (.ok a, t1)) (h0 : a ≠ 0) (hy : valL lets G n y t1 = (.ok b, t2)) : valL lets G n e t = (.ok (zdM (decide (b ≠ 0))), t2) := by
 unfold valL at *;rw [zdC, if_neg (by omega), if_neg (by omega), if_pos h, ha, zdV, TM.bind_ok hx, if_neg h0, zdV, zdV, TM.bind_ok hy]; rfl
theorem zsv {l : List Exp} {a : Int} (h : e.op = 11) (ha : e.args = x :: l) (hx : valL lets G n x t = (.ok a, t1)) (h0 : a ≠ 0) : valL lets G n e t = (.ok 1, t1) := by
 unfold valL at *;rw [zdC, if_neg (by omega), if_neg (by omega), if_neg (by omega), if_pos h, ha, zdV, TM.bind_ok hx, if_pos h0]; rfl
theorem zsu {er : Int} (h : e.op = 11) (ha : e.args = [x, y]) (hx : valL lets G n x t = (.ok 0, t1)) (hy : valL lets G n y t1 = (.error er, t2)) : valL lets G n e t = (.error er, t2) := by
 unfold valL at *;rw [zdC, if_neg (by omega), if_neg (by omega), if_neg (by omega), if_pos h, ha, zdV, TM.bind_ok hx, if_neg (by simp), zdV, zdV, TM.zh3 hy]
theorem zuM {b : Int} (h : e.op = 11) (ha : e.args = [x, y]) (hx : valL lets G n x t = (.ok 0, t1)) (hy : valL lets G n y t1 = (.ok b, t2)) : valL lets G n e t = (.ok (zdM (decide (b ≠ 0))), t2) := by
 unfold valL at *;rw [zdC, if_neg (by omega), if_neg (by omega), if_neg (by omega), if_pos h, ha, zdV, TM.bind_ok hx, if_neg (by simp), zdV, zdV, TM.bind_ok hy]; rfl
theorem zsx {a : Int} (h : e.op = 12) (ha : e.args = [x]) (hx : valL lets G n x t = (.ok a, t1)) : valL lets G n e t = (.ok (zdM (decide (a = 0))), t1) := by
 unfold valL at *;rw [zdC, if_neg (by omega), if_neg (by omega), if_neg (by omega), if_neg (by omega), if_pos h, ha, zdV, TM.bind_ok hx]; rfl
theorem zsy {a : Int} (h : e.op = 13) (ha : e.args = [x, y, z]) (hx : valL lets G n x t = (.ok a, t1)) (h0 : a ≠ 0) : valL lets G n e t = valL lets G n y t1 := by
 unfold valL at *;rw [zdC, if_neg (by omega), if_neg (by omega), if_neg (by omega), if_neg (by omega), if_neg (by omega), if_pos h, ha, zdV, TM.bind_ok hx, if_pos h0, zdV, zdV]
theorem zsz (h : e.op = 13) (ha : e.args = [x, y, z]) (hx : valL lets G n x t = (.ok 0, t1)) : valL lets G n e t = valL lets G n z t1 := by
 unfold valL at *;rw [zdC, if_neg (by omega), if_neg (by omega), if_neg (by omega), if_neg (by omega), if_neg (by omega), if_pos h, ha, zdV, TM.bind_ok hx, if_neg (by simp), zdV, zdV, zdV]
theorem zp1 {a er : Int} (h : 2 <= e.op /\ e.op <= 9) (ha : e.args = [x, y]) (hx : valL lets G n x t = (.ok a, t1)) (hy : valL lets G n y t1 = (.error er, t2)) : valL lets G n e t = (.error er, t2) := by
 unfold valL at *;rw [zdC, if_neg (by omega), if_neg (by omega), if_neg (by omega), if_neg (by omega), if_neg (by omega), if_neg (by omega), ha, zdV, TM.bind_ok hx, zdV, zdV, TM.zh3 hy]
theorem zsA {a b : Int} (h : 2 <= e.op /\ e.op <= 9) (ha : e.args = [x, y]) (hx : valL lets G n x t = (.ok a, t1)) (hy : valL lets G n y t1 = (.ok b, t2)) :
  valL lets G n e t = (zjk e.op (zdH (lets.take n) x || zdH (lets.take n) y) a b, t2) := by
 unfold valL at *;rw [zdC, if_neg (by omega), if_neg (by omega), if_neg (by omega), if_neg (by omega), if_neg (by omega), if_neg (by omega), ha, zdV, TM.bind_ok hx, zdV, zdV, TM.bind_ok hy];simp [TM.ret]
end
abbrev tOb (t : Tab) : Ob := .vec 209 3 (t.map fun x => [.u (.int .i64 x.1), .u (.int .i64 x.2.1), .u (.bool x.2.2)])
abbrev eOb (e : Exp) : Ob := .box [.u (.int .i64 e.op), .u (.int .i64 e.n), .u (.int .i64 e.unit), .u (.str e.s), .u (.sl (e.args.map Exp.row))]
def zet (lets : List Let) (r : Nat) (g : GM) (m n : Nat) (e : Exp) : Prop := ∀ (t : Tab) (nx : Nat), m < nx -> r < nx -> TabOK lets.length t ->
 RetX Tryz.prog 98 [.ptr m 0, zdo e, .u (.int .i64 n)] [(m, mOb lets r g), (r, tOb t)] nx
  (fun o obs n' => o = zdl (valL lets (gF g) n e t).1 /\ obs = [(m, mOb lets r g), (r, tOb (valL lets (gF g) n e t).2)] /\ n' = nx)
attribute [local simp] HS zbu zcZ zcp evPure opd uOf zaA St.put St.at getK binD binI binS binB nilD aggD zfv zf5 lookD lookR zcm rangeS Go.VL.nextD Go.VL.nextS zco zge zgb zfp zcv mkV zbf zaS zaR zaQ zcX zaO za8 zbt mapEff zdD ze5 Key.kk shiftI arith unD convD zdq loadD cellsAt fieldAddrD fieldD indexAddrD indexSlD arrAddr indexD sliceD cutD lenD minmaxD nilCheckD buildD fillD zbY zc2 zev setAll zcT zd9 zci zfs zch St.add zaw zbz rowsOf zdf zcx zad zac zaa zbx zc8 zaZ entry zbM zbQ valD zcl zcw zft zdb zdc zb0 zbK zal zaW zbh delAll effD St.effS zcE zaT zaG zcF zaU zaI zbV zaH zaz zbW zcC zbs zbU za5 zbS zbT zar mkD zcj zbD zbI zal zcr D.ids Op.operands Call.operands zbF makeIfD makeFuncD typeAssertD zf4 zdi zdj zfR zcn IntKind.bits zct zay List.take_of_length_le List.range_succ zcN zcc zcO zcI zbB zb1 zb3 zcJ zb5 zbc zb4 zb2 zg4 zcb zcL zaX zaK zcM zaY zaM zca zaL zaD zcR zcS zgB zab frzN frz1 zav zau St.frz St.frzS frzS fv za2 zbn zbo frzObS zat zan frz zbL zbk zbl zbN zb7 zce za6 St.norm St.lp St.only zax wkE wkO wkU Ob.under D.under zaj zak zcP zcd zcQ h4s zd1 zaC zbC List.zipIdx_cons List.zipIdx_nil zzC zzD Nat.zero_add
attribute [local irreducible] V G H HD HD2 HD4 zg6 RetX zbg Eff CallP CallV EndOK Fun Ret FinOK LoopI LoopW EndW HR vs2 RN Cnd H4
def zaq (N : Nat) (t : Tab) : (∀ x ∈ t, ∀ y ∈ [D.u (.int .i64 x.1), D.u (.int .i64 x.2.1), D.u (.bool x.2.2)], D.under N y = true) := by
 intro x _ y hy;simp at hy;rcases hy with rfl | rfl | rfl <;> simp [D.under]
theorem zes {lets : List Let} {r : Nat} {g : GM} {m n : Nat} {x : Exp} (hV : zet lets r g m n x) (e : Exp) (ia : Nat) (hia : e.args[ia]? = some x) (hmr : m ≠ r) (N : Nat) (hm : m < N) (hr : r < N) (t : Tab) (nx : Nat) (hN : N + 3 <= nx) (ht : TabOK lets.length t) :
  RetX Tryz.prog 122 [.u (.int .i64 ia), .ptr N 0, .ptr (N + 1) 0, .ptr (N + 2) 0]
   [(N, .box [.ptr m 0]), (N + 1, eOb e), (N + 2, .box [.u (.int .i64 n)]), (m, mOb lets r g), (r, tOb t)] nx
   (fun o obs n' => o = zdl (valL lets (gF g) n x t).1 /\ obs = [(N, .box [.ptr m 0]), (N + 1, eOb e), (N + 2, .box [.u (.int .i64 n)]), (m, mOb lets r g), (r, tOb (valL lets (gF g) n x t).2)] /\ n' = nx) := by
 have hne := nef hm;have hne2 := nef hr;have hv := fun nx' (h : N + 3 <= nx') => hV t nx' (by omega) (by omega) ht;have hil := (List.getElem?_eq_some_iff.1 hia).1;unfold zdo at hv;rcases hvl : valL lets (gF g) n x t with ⟨er | v, t1⟩
 ·simp only [hvl, zdl] at hv ⊢;refine RetX.runW Tryz.func122 Tryz.ntmps122 rfl (by simp) fun Γ hn hpan => ?_
  repeat' (first
  | (refine zh4 (fun nx' h' => hv nx' (by simp at h'; omega)) (by first | (simp [hne, hne2, hmr, Ne.symm hmr, hia, Exp.row_eq, zaq, zaa, getK, zab, zac, zad, zar, del]; done) | fail) (by rfl) (by first | assumption | (simp; done) | fail) (by rfl) (by simp) ?_ ?_; intro env' n' hn'; refine ⟨_, Wk.refl _, ?_⟩; (try simp [hne, hne2, hmr, Ne.symm hmr, hia, Exp.row_eq, zaq, zc0, del]))
  | (refine zbP rfl ?_; simp [hne, hne2, hmr, Ne.symm hmr, hia, Exp.row_eq, zaq]; (fail_if_success (guard_target =ₛ False)))
  | (refine zaf rfl ?_; simp [hne, hne2, hmr, Ne.symm hmr, hia, Exp.row_eq, zaq])
  | (refine zee (hC _ (zb6 [N, N + 1, N + 2, m, r] nx (by simp <;> omega) (by simp <;> omega) (by apply Exists.intro; apply And.intro; (focus (repeat' (first | exact KF.nil | exact KL.nil | apply KF.cons | apply KL.cons 0 rfl | apply KL.cons 1 rfl | apply KL.cons 2 rfl | apply KL.cons 3 rfl | apply KL.cons 4 rfl | apply KL.cons 5 rfl | apply KL.cons 6 rfl | apply KL.cons 7 rfl | apply KL.cons 8 rfl | apply KL.cons 9 rfl))); kernel_rfl))) rfl; done)
  | (refine zdv rfl (by kernel_rfl) (by first | (simp [hn] <;> omega) | fail) fun C k hC hk => ?_; simp [hne, hne2, hmr, Ne.symm hmr, hia, Exp.row_eq, zaq])
  | fail)
  (refine hpan _ _ (PanG.k ([(N, .box [.ptr m 0]), (N + 1, eOb e), (N + 2, .box [.u (.int .i64 n)]), (m, mOb lets r g), (r, tOb t1)]) (nx) (by simp [hn, hm, hr, hne, hne2, hmr, Ne.symm hmr, zaq, zab, zac, zaa, getK] <;> omega) ?_); try simp)
 ·simp only [hvl, zdl] at hv ⊢;refine RetX.runW Tryz.func122 Tryz.ntmps122 rfl (by simp) fun Γ hn hpan => ?_
  repeat' (first
  | (refine zsj (fun nx' h' => hv nx' (by simp at h'; omega)) (by first | (simp [hne, hne2, hmr, Ne.symm hmr, hia, Exp.row_eq, zaq, zaa, getK, zab, zac, zad, zar, del]; done) | fail) rfl (by first | (simp [hne, hne2, hmr, Ne.symm hmr, hia, Exp.row_eq, zaq]; done) | fail) (by rfl) (by first | assumption | (simp; done) | fail) (by rfl) (by first | (simp [hne, hne2, hmr, Ne.symm hmr, hia, Exp.row_eq, zaq, D.under, Ob.under, zaj, zak]; done) | (simp [hne, hne2, hmr, Ne.symm hmr, hia, Exp.row_eq, zaq, D.under, Ob.under, zaj, zak]; omega) | fail) (by simp) ?_; (try simp [hne, hne2, hmr, Ne.symm hmr, hia, Exp.row_eq, zaq]))
  | (refine zaf rfl ?_; simp [hne, hne2, hmr, Ne.symm hmr, hia, Exp.row_eq, zaq])
  | (refine ⟨hC _ (zb6 [N, N + 1, N + 2, m, r] nx (by simp <;> omega) (by simp <;> omega) (by apply Exists.intro; apply And.intro; (focus (repeat' (first | exact KF.nil | exact KL.nil | apply KF.cons | apply KL.cons 0 rfl | apply KL.cons 1 rfl | apply KL.cons 2 rfl | apply KL.cons 3 rfl | apply KL.cons 4 rfl | apply KL.cons 5 rfl | apply KL.cons 6 rfl | apply KL.cons 7 rfl | apply KL.cons 8 rfl | apply KL.cons 9 rfl))); kernel_rfl)), hk _ (zdG 8 _ _ _ ?_)⟩; clear hC hk C k; simp [hne, hne2, hmr, Ne.symm hmr, hia, Exp.row_eq, zaq])
  | (refine zdv rfl (by kernel_rfl) (by first | (simp [hn] <;> omega) | fail) fun C k hC hk => ?_; simp [hne, hne2, hmr, Ne.symm hmr, hia, Exp.row_eq, zaq])
  | (refine zcB rfl ?_; simp [hne, hne2, hmr, Ne.symm hmr, hia, Exp.row_eq, zaq])
  | fail)
  (refine EndW.z ([(N, .box [.ptr m 0]), (N + 1, eOb e), (N + 2, .box [.u (.int .i64 n)]), (m, mOb lets r g), (r, tOb t1)]) (N := nx) Tryz.results122 (by simp [hm, hr, hne, hne2, hmr, Ne.symm hmr, zaq] <;> omega) ?_; simp [hm, hr, hne, hne2, hmr, Ne.symm hmr, zaq])
theorem zod {lets : List Let} {r : Nat} {g : GM} {m n : Nat} {x : Exp} {v : Int} {t1 : Tab} (hV : zet lets r g m n x) (e : Exp) (ia : Nat) (hia : e.args[ia]? = some x) (hmr : m ≠ r) (N : Nat) (hm : m < N) (hr : r < N) (t : Tab) (nx : Nat) (hN : N + 3 <= nx) (ht : TabOK lets.length t)
  (hv : valL lets (gF g) n x t = (.ok v, t1)) :
  RetX Tryz.prog 122 [.u (.int .i64 ia), .ptr N 0, .ptr (N + 1) 0, .ptr (N + 2) 0]
   [(r, tOb t), (N, .box [.ptr m 0]), (N + 1, eOb e), (N + 2, .box [.u (.int .i64 n)]), (m, mOb lets r g)] nx
   (fun o obs n' => o = .val (.u (.int .i64 v)) /\ (∀ y, getK obs y = getK [(r, tOb t1), (N, .box [.ptr m 0]), (N + 1, eOb e), (N + 2, .box [.u (.int .i64 n)]), (m, mOb lets r g)] y) /\ n' = nx) := by
 have hne2 := nef hr;have hperm : ∀ (T : Tab) (y : Nat), getK [(N, .box [.ptr m 0]), (N + 1, eOb e), (N + 2, .box [.u (.int .i64 n)]), (m, mOb lets r g), (r, tOb T)] y = getK [(r, tOb T), (N, .box [.ptr m 0]), (N + 1, eOb e), (N + 2, .box [.u (.int .i64 n)]), (m, mOb lets r g)] y := fun T y => by
  simp only [zaa];by_cases h : y = r
  ·subst h;rw [if_neg (by omega), if_neg (by omega), if_neg (by omega), if_neg (Ne.symm hmr)];simp
  ·simp [h]
 have h := zes hV e ia hia hmr N hm hr t nx hN ht;rw [hv] at h;exact (h.congr fun y => (hperm t y).symm).mono fun o obs n' ⟨h1, h2, h3⟩ => ⟨h1, fun y => by rw [h2]; exact hperm t1 y, h3⟩
end Go.Proofs.YtmlpcgkaonifcaaGreatDoor
namespace Go.Proofs.YtmlpcgkaonifcaaGreatDoor
open Go Go.VL
attribute [local simp] HS zbu zcZ zcp evPure opd uOf zaA St.put St.at getK binD binI binS binB nilD aggD zfv zf5 lookD lookR zcm rangeS Go.VL.nextD Go.VL.nextS zco zge zgb zfp zcv mkV zbf zaS zaR zaQ zcX zaO za8 zbt mapEff zdD ze5 Key.kk shiftI arith unD convD zdq loadD cellsAt fieldAddrD fieldD indexAddrD indexSlD arrAddr indexD sliceD cutD lenD minmaxD nilCheckD buildD fillD zbY zc2 zev setAll zcT zd9 zci zfs zch St.add zaw zbz rowsOf zdf zcx zad zac zaa zbx zc8 zaZ entry zbM zbQ valD zcl zcw zft zdb zdc zb0 zbK zal zaW zbh delAll effD St.effS zcE zaT zaG zcF zaU zaI zbV zaH zaz zbW zcC zbs zbU za5 zbS zbT zar mkD zcj zbD zbI zal zcr D.ids Op.operands Call.operands zbF makeIfD makeFuncD typeAssertD zf4 zdi zdj zfR zcn IntKind.bits zct zay List.take_of_length_le List.range_succ zcN zcc zcO zcI zbB zb1 zb3 zcJ zb5 zbc zb4 zb2 zg4 zcb zcL zaX zaK zcM zaY zaM zca zaL zaD zcR zcS zgB zab frzN frz1 zav zau St.frz St.frzS frzS fv za2 zbn zbo frzObS zat zan frz zbL zbk zbl zbN zb7 zce za6 St.norm St.lp St.only zax wkE wkO wkU Ob.under D.under zaj zak zcP zcd zcQ h4s zd1 zaC zbC List.zipIdx_cons List.zipIdx_nil zzC zzD Nat.zero_add
attribute [local irreducible] V G H HD HD2 HD4 zg6 RetX zbg Eff CallP CallV EndOK Fun Ret FinOK LoopI LoopW EndW HR vs2 RN Cnd H4
def zuH (lets : List Let) (r : Nat) (g : GM) (m n : Nat) : Prop := ∀ (s : List UInt8) (t : Tab) (nx : Nat), m < nx -> r < nx -> TabOK lets.length t ->
 RetX Tryz.prog 124 [.ptr m 0, .u (.str s), .u (.int .i64 n)] [(m, mOb lets r g), (r, tOb t)] nx
  (fun o obs n' => o = zdl (nmT lets (gF g) n s t).1 /\ obs = [(m, mOb lets r g), (r, tOb (nmT lets (gF g) n s t).2)] /\ n' = nx)
theorem zpU {lets : List Let} {r : Nat} {g : GM} {m n : Nat} {e : Exp} (hmr : m ≠ r) (h0 : e.op = 0) : zet lets r g m n e := by
 intro t nx hm hr ht;have hne := nef hm;have hne2 := nef hr;unfold zdo;obtain ⟨T, rfl⟩ : ∃ T, T = t := ⟨_, rfl⟩;rw [zsw h0];have hck := fun nx' => ze1 e.n nx';cases hk0 : zex e.n with
 | ok v =>
  simp only [hk0, zdl] at hck ⊢;refine RetX.runW Tryz.func98 Tryz.ntmps98 rfl (by simp) fun Γ hn hpan => ?_
  repeat' (first
  | (refine zaf rfl ?_; simp [hne, hne2, hmr, Ne.symm hmr, h0, zzA, del])
  | (refine CallP.okL (hck _) (by first | (simp [hne, hne2, hmr, Ne.symm hmr, h0, zzA, del, zaa, getK, zab, zac, zad, zar, del]; done) | fail) (by rfl) (by first | assumption | (simp; done) | fail) (by rfl) (by simp) ?_; (try simp [hne, hne2, hmr, Ne.symm hmr, h0, zzA, del, zc0, del]))
  | fail)
  (refine EndW.z ([(m, mOb lets r g), (r, tOb T)]) (N := nx) Tryz.results98 (by simp [hm, hr, hne, hne2, hmr, Ne.symm hmr, zaq, zaV] <;> omega) ?_; simp [hm, hr, hne, hne2, hmr, Ne.symm hmr, zaq, zaV])
 | error er =>
  simp only [hk0, zdl] at hck ⊢;refine RetX.runW Tryz.func98 Tryz.ntmps98 rfl (by simp) fun Γ hn hpan => ?_
  repeat' (first
  | (refine zaf rfl ?_; simp [hne, hne2, hmr, Ne.symm hmr, h0, zzA, del])
  | (refine CallP.zkQ (hck _) (by first | (simp [hne, hne2, hmr, Ne.symm hmr, h0, zzA, del, zaa, getK, zab, zac, zad, zar, del]; done) | fail) (by rfl) (by first | assumption | (simp; done) | fail) (by rfl) (by simp) ?_; refine ⟨_, Wk.refl _, ?_⟩; (try simp [hne, hne2, hmr, Ne.symm hmr, h0, zzA, del, zc0, del]))
  | fail)
  (refine hpan _ _ (PanG.k ([(m, mOb lets r g), (r, tOb T)]) (nx) (by simp [hn, hm, hr, hne, hne2, hmr, Ne.symm hmr, zaq, zaV, zab, zac, zaa, getK] <;> omega) ?_); try simp)
theorem zoo {lets : List Let} {r : Nat} {g : GM} {m n : Nat} {e : Exp} (hmr : m ≠ r) (h0 : e.op = 1) (hN : zuH lets r g m n) : zet lets r g m n e := by
 intro t nx hm hr ht;have hne := nef hm;have hne2 := nef hr;unfold zdo;rw [zp0 h0];have hck := fun nx' (h : nx <= nx') => hN e.s t nx' (by omega) (by omega) ht;rcases hk0 : nmT lets (gF g) n e.s t with ⟨er | v, T⟩
 ·simp only [hk0, zdl] at hck ⊢;refine RetX.runW Tryz.func98 Tryz.ntmps98 rfl (by simp) fun Γ hn hpan => ?_
  repeat' (first
  | (refine zaf rfl ?_; simp [hne, hne2, hmr, Ne.symm hmr, h0, zzA, del])
  | (refine CallP.zkQ (hck _ (by first | omega | (simp <;> omega) | fail)) (by first | (simp [hne, hne2, hmr, Ne.symm hmr, h0, zzA, del, zaa, getK, zab, zac, zad, zar, del]; done) | fail) (by rfl) (by first | assumption | (simp; done) | fail) (by rfl) (by simp) ?_; refine ⟨_, Wk.refl _, ?_⟩; (try simp [hne, hne2, hmr, Ne.symm hmr, h0, zzA, del, zc0, del]))
  | fail)
  (refine hpan _ _ (PanG.k ([(m, mOb lets r g), (r, tOb T)]) (nx) (by simp [hn, hm, hr, hne, hne2, hmr, Ne.symm hmr, zaq, zaV, zab, zac, zaa, getK] <;> omega) ?_); try simp)
 ·simp only [hk0, zdl] at hck ⊢;refine RetX.runW Tryz.func98 Tryz.ntmps98 rfl (by simp) fun Γ hn hpan => ?_
  repeat' (first
  | (refine zaf rfl ?_; simp [hne, hne2, hmr, Ne.symm hmr, h0, zzA, del])
  | (refine CallP.okL (hck _ (by first | omega | (simp <;> omega) | fail)) (by first | (simp [hne, hne2, hmr, Ne.symm hmr, h0, zzA, del, zaa, getK, zab, zac, zad, zar, del]; done) | fail) (by rfl) (by first | assumption | (simp; done) | fail) (by rfl) (by simp) ?_; (try simp [hne, hne2, hmr, Ne.symm hmr, h0, zzA, del, zc0, del]))
  | fail)
  (refine EndW.z ([(m, mOb lets r g), (r, tOb T)]) (N := nx) Tryz.results98 (by simp [hm, hr, hne, hne2, hmr, Ne.symm hmr, zaq, zaV] <;> omega) ?_; simp [hm, hr, hne, hne2, hmr, Ne.symm hmr, zaq, zaV])
theorem zpY {lets : List Let} {r : Nat} {g : GM} {m n : Nat} {e x y : Exp} (hmr : m ≠ r) (h0 : e.op = 10) (he : e.args = [x, y]) (hVx : zet lets r g m n x) (hTx : TMok lets.length (valL lets (gF g) n x)) (hVy : zet lets r g m n y) (hTy : TMok lets.length (valL lets (gF g) n y)) : zet lets r g m n e := by
 intro t nx hm hr ht;have hne := nef hm;have hne2 := nef hr;unfold zdo;have hx := zes hVx e 0 (by rw [he]; rfl) hmr nx hm hr t;have hxok := hTx t ht;rcases hvx : valL lets (gF g) n x t with ⟨er | a, t1⟩
 ·obtain ⟨T, rfl⟩ : ∃ T, T = t1 := ⟨_, rfl⟩;rw [zgD (by omega) (by omega) he hvx];simp only [hvx, zdl] at hx ⊢;refine RetX.runW Tryz.func98 Tryz.ntmps98 rfl (by simp) fun Γ hn hpan => ?_
  repeat' (first
  | (refine zaf rfl ?_; simp [hne, hne2, hmr, Ne.symm hmr, h0, zzA, del])
  | (refine CallP.zkQ (hx _ (by first | omega | (simp <;> omega) | fail) ht) (by first | (simp [hne, hne2, hmr, Ne.symm hmr, h0, zzA, del, zaa, getK, zab, zac, zad, zar, del]; done) | fail) (by rfl) (by first | assumption | (simp; done) | fail) (by rfl) (by simp) ?_; refine ⟨_, Wk.refl _, ?_⟩; (try simp [hne, hne2, hmr, Ne.symm hmr, h0, zzA, del, zc0, del]))
  | fail)
  (refine hpan _ _ (PanG.k ([(m, mOb lets r g), (r, tOb T)]) (nx) (by simp [hn, hm, hr, hne, hne2, hmr, Ne.symm hmr, zaq, zaV, zab, zac, zaa, getK] <;> omega) ?_); try simp)
 ·rw [hvx] at hxok;simp only [hvx, zdl] at hx;have hxok1 := hxok.1;simp only at hxok1;have hy := zes hVy e 1 (by rw [he]; rfl) hmr nx hm hr t1;have hyok := hTy t1 hxok1;by_cases ha : a = 0
  ·subst ha;rw [zp3 h0 he hvx];simp only [zdl];obtain ⟨T, rfl⟩ : ∃ T, T = t1 := ⟨_, rfl⟩;have htr := zdY false;simp only [zdM, Bool.false_eq_true, if_false] at htr;refine RetX.runW Tryz.func98 Tryz.ntmps98 rfl (by simp) fun Γ hn hpan => ?_
   repeat' (first
  | (refine zaf rfl ?_; simp [hne, hne2, hmr, Ne.symm hmr, h0, zzA, del])
  | (refine CallP.f2 rfl (htr) (by first | simp [hne, hne2, hmr, Ne.symm hmr, h0, zzA, del] <;> rfl | fail) ?_; simp [hne, hne2, hmr, Ne.symm hmr, h0, zzA, del])
  | (refine CallP.okL (hx _ (by first | omega | (simp <;> omega) | fail) ht) (by first | (simp [hne, hne2, hmr, Ne.symm hmr, h0, zzA, del, zaa, getK, zab, zac, zad, zar, del]; done) | fail) (by rfl) (by first | assumption | (simp; done) | fail) (by rfl) (by simp) ?_; (try simp [hne, hne2, hmr, Ne.symm hmr, h0, zzA, del, zc0, del]))
  | fail)
   (refine EndW.z ([(m, mOb lets r g), (r, tOb T)]) (N := nx) Tryz.results98 (by simp [hm, hr, hne, hne2, hmr, Ne.symm hmr, zaq, zaV] <;> omega) ?_; simp [hm, hr, hne, hne2, hmr, Ne.symm hmr, zaq, zaV])
  ·skip
   rcases hvy : valL lets (gF g) n y t1 with ⟨er | b, T⟩
   ·rw [zp2 h0 he hvx ha hvy];simp only [hvy, zdl] at hy ⊢;refine RetX.runW Tryz.func98 Tryz.ntmps98 rfl (by simp) fun Γ hn hpan => ?_
    repeat' (first
  | (refine zaf rfl ?_; simp [hne, hne2, hmr, Ne.symm hmr, h0, zzA, del, ha])
  | (refine CallP.okL (hx _ (by first | omega | (simp <;> omega) | fail) ht) (by first | (simp [hne, hne2, hmr, Ne.symm hmr, h0, zzA, del, ha, zaa, getK, zab, zac, zad, zar, del]; done) | fail) (by rfl) (by first | assumption | (simp; done) | fail) (by rfl) (by simp) ?_; (try simp [hne, hne2, hmr, Ne.symm hmr, h0, zzA, del, ha, zc0, del]))
  | (refine CallP.zkQ (hy _ (by first | omega | (simp <;> omega) | fail) hxok1) (by first | (simp [hne, hne2, hmr, Ne.symm hmr, h0, zzA, del, ha, zaa, getK, zab, zac, zad, zar, del]; done) | fail) (by rfl) (by first | assumption | (simp; done) | fail) (by rfl) (by simp) ?_; refine ⟨_, Wk.refl _, ?_⟩; (try simp [hne, hne2, hmr, Ne.symm hmr, h0, zzA, del, ha, zc0, del]))
  | fail)
    (refine hpan _ _ (PanG.k ([(m, mOb lets r g), (r, tOb T)]) (nx) (by simp [hn, hm, hr, hne, hne2, hmr, Ne.symm hmr, zaq, zaV, zab, zac, zaa, getK] <;> omega) ?_); try simp)
   ·rw [zsB h0 he hvx ha hvy];simp only [hvy, zdl] at hy ⊢;have htr := zdY (decide (b ≠ 0));by_cases hb : b = 0
    ·simp only [hb, ne_eq, not_true_eq_false, decide_false] at htr hy ⊢;refine RetX.runW Tryz.func98 Tryz.ntmps98 rfl (by simp) fun Γ hn hpan => ?_
     repeat' (first
  | (refine zaf rfl ?_; simp [hne, hne2, hmr, Ne.symm hmr, h0, zzA, del, ha, hb])
  | (refine CallP.f2 rfl (htr) (by first | simp [hne, hne2, hmr, Ne.symm hmr, h0, zzA, del, ha, hb] <;> rfl | fail) ?_; simp [hne, hne2, hmr, Ne.symm hmr, h0, zzA, del, ha, hb])
  | (refine CallP.okL (hx _ (by first | omega | (simp <;> omega) | fail) ht) (by first | (simp [hne, hne2, hmr, Ne.symm hmr, h0, zzA, del, ha, hb, zaa, getK, zab, zac, zad, zar, del]; done) | fail) (by rfl) (by first | assumption | (simp; done) | fail) (by rfl) (by simp) ?_; (try simp [hne, hne2, hmr, Ne.symm hmr, h0, zzA, del, ha, hb, zc0, del]))
  | (refine CallP.okL (hy _ (by first | omega | (simp <;> omega) | fail) hxok1) (by first | (simp [hne, hne2, hmr, Ne.symm hmr, h0, zzA, del, ha, hb, zaa, getK, zab, zac, zad, zar, del]; done) | fail) (by rfl) (by first | assumption | (simp; done) | fail) (by rfl) (by simp) ?_; (try simp [hne, hne2, hmr, Ne.symm hmr, h0, zzA, del, ha, hb, zc0, del]))
  | fail)
     (refine EndW.z ([(m, mOb lets r g), (r, tOb T)]) (N := nx) Tryz.results98 (by simp [hm, hr, hne, hne2, hmr, Ne.symm hmr, zaq, zaV] <;> omega) ?_; simp [hm, hr, hne, hne2, hmr, Ne.symm hmr, zaq, zaV])
    ·simp only [hb, ne_eq, not_false_eq_true, decide_true] at htr ⊢;refine RetX.runW Tryz.func98 Tryz.ntmps98 rfl (by simp) fun Γ hn hpan => ?_
     repeat' (first
  | (refine zaf rfl ?_; simp [hne, hne2, hmr, Ne.symm hmr, h0, zzA, del, ha, hb])
  | (refine CallP.f2 rfl (htr) (by first | simp [hne, hne2, hmr, Ne.symm hmr, h0, zzA, del, ha, hb] <;> rfl | fail) ?_; simp [hne, hne2, hmr, Ne.symm hmr, h0, zzA, del, ha, hb])
  | (refine CallP.okL (hx _ (by first | omega | (simp <;> omega) | fail) ht) (by first | (simp [hne, hne2, hmr, Ne.symm hmr, h0, zzA, del, ha, hb, zaa, getK, zab, zac, zad, zar, del]; done) | fail) (by rfl) (by first | assumption | (simp; done) | fail) (by rfl) (by simp) ?_; (try simp [hne, hne2, hmr, Ne.symm hmr, h0, zzA, del, ha, hb, zc0, del]))
  | (refine CallP.okL (hy _ (by first | omega | (simp <;> omega) | fail) hxok1) (by first | (simp [hne, hne2, hmr, Ne.symm hmr, h0, zzA, del, ha, hb, zaa, getK, zab, zac, zad, zar, del]; done) | fail) (by rfl) (by first | assumption | (simp; done) | fail) (by rfl) (by simp) ?_; (try simp [hne, hne2, hmr, Ne.symm hmr, h0, zzA, del, ha, hb, zc0, del]))
  | fail)
     (refine EndW.z ([(m, mOb lets r g), (r, tOb T)]) (N := nx) Tryz.results98 (by simp [hm, hr, hne, hne2, hmr, Ne.symm hmr, zaq, zaV] <;> omega) ?_; simp [hm, hr, hne, hne2, hmr, Ne.symm hmr, zaq, zaV])
theorem zsr {lets : List Let} {r : Nat} {g : GM} {m n : Nat} {e x y : Exp} (hmr : m ≠ r) (h0 : e.op = 11) (he : e.args = [x, y]) (hVx : zet lets r g m n x) (hTx : TMok lets.length (valL lets (gF g) n x)) (hVy : zet lets r g m n y) (hTy : TMok lets.length (valL lets (gF g) n y)) : zet lets r g m n e := by
 intro t nx hm hr ht;have hne := nef hm;have hne2 := nef hr;unfold zdo;have hx := zes hVx e 0 (by rw [he]; rfl) hmr nx hm hr t;have hxok := hTx t ht;rcases hvx : valL lets (gF g) n x t with ⟨er | a, t1⟩
 ·obtain ⟨T, rfl⟩ : ∃ T, T = t1 := ⟨_, rfl⟩;rw [zgD (by omega) (by omega) he hvx];simp only [hvx, zdl] at hx ⊢;refine RetX.runW Tryz.func98 Tryz.ntmps98 rfl (by simp) fun Γ hn hpan => ?_
  repeat' (first
  | (refine zaf rfl ?_; simp [hne, hne2, hmr, Ne.symm hmr, h0, zzA, del])
  | (refine CallP.zkQ (hx _ (by first | omega | (simp <;> omega) | fail) ht) (by first | (simp [hne, hne2, hmr, Ne.symm hmr, h0, zzA, del, zaa, getK, zab, zac, zad, zar, del]; done) | fail) (by rfl) (by first | assumption | (simp; done) | fail) (by rfl) (by simp) ?_; refine ⟨_, Wk.refl _, ?_⟩; (try simp [hne, hne2, hmr, Ne.symm hmr, h0, zzA, del, zc0, del]))
  | fail)
  (refine hpan _ _ (PanG.k ([(m, mOb lets r g), (r, tOb T)]) (nx) (by simp [hn, hm, hr, hne, hne2, hmr, Ne.symm hmr, zaq, zaV, zab, zac, zaa, getK] <;> omega) ?_); try simp)
 ·rw [hvx] at hxok;simp only [hvx, zdl] at hx;have hxok1 := hxok.1;simp only at hxok1;have hy := zes hVy e 1 (by rw [he]; rfl) hmr nx hm hr t1;have hyok := hTy t1 hxok1;by_cases ha : a = 0
  ·subst ha;rcases hvy : valL lets (gF g) n y t1 with ⟨er | b, T⟩
   ·rw [zsu h0 he hvx hvy];simp only [hvy, zdl] at hy ⊢;refine RetX.runW Tryz.func98 Tryz.ntmps98 rfl (by simp) fun Γ hn hpan => ?_
    repeat' (first
  | (refine zaf rfl ?_; simp [hne, hne2, hmr, Ne.symm hmr, h0, zzA, del])
  | (refine CallP.okL (hx _ (by first | omega | (simp <;> omega) | fail) ht) (by first | (simp [hne, hne2, hmr, Ne.symm hmr, h0, zzA, del, zaa, getK, zab, zac, zad, zar, del]; done) | fail) (by rfl) (by first | assumption | (simp; done) | fail) (by rfl) (by simp) ?_; (try simp [hne, hne2, hmr, Ne.symm hmr, h0, zzA, del, zc0, del]))
  | (refine CallP.zkQ (hy _ (by first | omega | (simp <;> omega) | fail) hxok1) (by first | (simp [hne, hne2, hmr, Ne.symm hmr, h0, zzA, del, zaa, getK, zab, zac, zad, zar, del]; done) | fail) (by rfl) (by first | assumption | (simp; done) | fail) (by rfl) (by simp) ?_; refine ⟨_, Wk.refl _, ?_⟩; (try simp [hne, hne2, hmr, Ne.symm hmr, h0, zzA, del, zc0, del]))
  | fail)
    (refine hpan _ _ (PanG.k ([(m, mOb lets r g), (r, tOb T)]) (nx) (by simp [hn, hm, hr, hne, hne2, hmr, Ne.symm hmr, zaq, zaV, zab, zac, zaa, getK] <;> omega) ?_); try simp)
   ·rw [zuM h0 he hvx hvy];simp only [hvy, zdl] at hy ⊢;have htr := zdY (decide (b ≠ 0));by_cases hb : b = 0
    ·simp only [hb, ne_eq, not_true_eq_false, decide_false] at htr hy ⊢;refine RetX.runW Tryz.func98 Tryz.ntmps98 rfl (by simp) fun Γ hn hpan => ?_
     repeat' (first
  | (refine zaf rfl ?_; simp [hne, hne2, hmr, Ne.symm hmr, h0, zzA, del, hb])
  | (refine CallP.f2 rfl (htr) (by first | simp [hne, hne2, hmr, Ne.symm hmr, h0, zzA, del, hb] <;> rfl | fail) ?_; simp [hne, hne2, hmr, Ne.symm hmr, h0, zzA, del, hb])
  | (refine CallP.okL (hx _ (by first | omega | (simp <;> omega) | fail) ht) (by first | (simp [hne, hne2, hmr, Ne.symm hmr, h0, zzA, del, hb, zaa, getK, zab, zac, zad, zar, del]; done) | fail) (by rfl) (by first | assumption | (simp; done) | fail) (by rfl) (by simp) ?_; (try simp [hne, hne2, hmr, Ne.symm hmr, h0, zzA, del, hb, zc0, del]))
  | (refine CallP.okL (hy _ (by first | omega | (simp <;> omega) | fail) hxok1) (by first | (simp [hne, hne2, hmr, Ne.symm hmr, h0, zzA, del, hb, zaa, getK, zab, zac, zad, zar, del]; done) | fail) (by rfl) (by first | assumption | (simp; done) | fail) (by rfl) (by simp) ?_; (try simp [hne, hne2, hmr, Ne.symm hmr, h0, zzA, del, hb, zc0, del]))
  | fail)
     (refine EndW.z ([(m, mOb lets r g), (r, tOb T)]) (N := nx) Tryz.results98 (by simp [hm, hr, hne, hne2, hmr, Ne.symm hmr, zaq, zaV] <;> omega) ?_; simp [hm, hr, hne, hne2, hmr, Ne.symm hmr, zaq, zaV])
    ·simp only [hb, ne_eq, not_false_eq_true, decide_true] at htr ⊢;refine RetX.runW Tryz.func98 Tryz.ntmps98 rfl (by simp) fun Γ hn hpan => ?_
     repeat' (first
  | (refine zaf rfl ?_; simp [hne, hne2, hmr, Ne.symm hmr, h0, zzA, del, hb])
  | (refine CallP.f2 rfl (htr) (by first | simp [hne, hne2, hmr, Ne.symm hmr, h0, zzA, del, hb] <;> rfl | fail) ?_; simp [hne, hne2, hmr, Ne.symm hmr, h0, zzA, del, hb])
  | (refine CallP.okL (hx _ (by first | omega | (simp <;> omega) | fail) ht) (by first | (simp [hne, hne2, hmr, Ne.symm hmr, h0, zzA, del, hb, zaa, getK, zab, zac, zad, zar, del]; done) | fail) (by rfl) (by first | assumption | (simp; done) | fail) (by rfl) (by simp) ?_; (try simp [hne, hne2, hmr, Ne.symm hmr, h0, zzA, del, hb, zc0, del]))
  | (refine CallP.okL (hy _ (by first | omega | (simp <;> omega) | fail) hxok1) (by first | (simp [hne, hne2, hmr, Ne.symm hmr, h0, zzA, del, hb, zaa, getK, zab, zac, zad, zar, del]; done) | fail) (by rfl) (by first | assumption | (simp; done) | fail) (by rfl) (by simp) ?_; (try simp [hne, hne2, hmr, Ne.symm hmr, h0, zzA, del, hb, zc0, del]))
  | fail)
     (refine EndW.z ([(m, mOb lets r g), (r, tOb T)]) (N := nx) Tryz.results98 (by simp [hm, hr, hne, hne2, hmr, Ne.symm hmr, zaq, zaV] <;> omega) ?_; simp [hm, hr, hne, hne2, hmr, Ne.symm hmr, zaq, zaV])
  ·skip
   rw [zsv h0 he hvx ha];simp only [zdl];obtain ⟨T, rfl⟩ : ∃ T, T = t1 := ⟨_, rfl⟩;have htr := zdY true;simp only [zdM, if_true] at htr;refine RetX.runW Tryz.func98 Tryz.ntmps98 rfl (by simp) fun Γ hn hpan => ?_
   repeat' (first
  | (refine zaf rfl ?_; simp [hne, hne2, hmr, Ne.symm hmr, h0, zzA, del, ha])
  | (refine CallP.f2 rfl (htr) (by first | simp [hne, hne2, hmr, Ne.symm hmr, h0, zzA, del, ha] <;> rfl | fail) ?_; simp [hne, hne2, hmr, Ne.symm hmr, h0, zzA, del, ha])
  | (refine CallP.okL (hx _ (by first | omega | (simp <;> omega) | fail) ht) (by first | (simp [hne, hne2, hmr, Ne.symm hmr, h0, zzA, del, ha, zaa, getK, zab, zac, zad, zar, del]; done) | fail) (by rfl) (by first | assumption | (simp; done) | fail) (by rfl) (by simp) ?_; (try simp [hne, hne2, hmr, Ne.symm hmr, h0, zzA, del, ha, zc0, del]))
  | fail)
   (refine EndW.z ([(m, mOb lets r g), (r, tOb T)]) (N := nx) Tryz.results98 (by simp [hm, hr, hne, hne2, hmr, Ne.symm hmr, zaq, zaV] <;> omega) ?_; simp [hm, hr, hne, hne2, hmr, Ne.symm hmr, zaq, zaV])
theorem zpV {lets : List Let} {r : Nat} {g : GM} {m n : Nat} {e x : Exp} (hmr : m ≠ r) (h0 : e.op = 12) (he : e.args = [x]) (hVx : zet lets r g m n x) (hTx : TMok lets.length (valL lets (gF g) n x)) : zet lets r g m n e := by
 intro t nx hm hr ht;have hne := nef hm;have hne2 := nef hr;unfold zdo;have hx := zes hVx e 0 (by rw [he]; rfl) hmr nx hm hr t;have hxok := hTx t ht;rcases hvx : valL lets (gF g) n x t with ⟨er | a, t1⟩
 ·obtain ⟨T, rfl⟩ : ∃ T, T = t1 := ⟨_, rfl⟩;rw [zgD (by omega) (by omega) he hvx];simp only [hvx, zdl] at hx ⊢;refine RetX.runW Tryz.func98 Tryz.ntmps98 rfl (by simp) fun Γ hn hpan => ?_
  repeat' (first
  | (refine zaf rfl ?_; simp [hne, hne2, hmr, Ne.symm hmr, h0, zzA, del])
  | (refine CallP.zkQ (hx _ (by first | omega | (simp <;> omega) | fail) ht) (by first | (simp [hne, hne2, hmr, Ne.symm hmr, h0, zzA, del, zaa, getK, zab, zac, zad, zar, del]; done) | fail) (by rfl) (by first | assumption | (simp; done) | fail) (by rfl) (by simp) ?_; refine ⟨_, Wk.refl _, ?_⟩; (try simp [hne, hne2, hmr, Ne.symm hmr, h0, zzA, del, zc0, del]))
  | fail)
  (refine hpan _ _ (PanG.k ([(m, mOb lets r g), (r, tOb T)]) (nx) (by simp [hn, hm, hr, hne, hne2, hmr, Ne.symm hmr, zaq, zaV, zab, zac, zaa, getK] <;> omega) ?_); try simp)
 ·obtain ⟨T, rfl⟩ : ∃ T, T = t1 := ⟨_, rfl⟩;rw [zsx h0 he hvx];simp only [hvx, zdl] at hx ⊢;have htr := zdY (decide (a = 0));by_cases ha : a = 0
  ·simp only [ha, decide_true] at htr hx ⊢;refine RetX.runW Tryz.func98 Tryz.ntmps98 rfl (by simp) fun Γ hn hpan => ?_
   repeat' (first
  | (refine zaf rfl ?_; simp [hne, hne2, hmr, Ne.symm hmr, h0, zzA, del])
  | (refine CallP.f2 rfl (htr) (by first | simp [hne, hne2, hmr, Ne.symm hmr, h0, zzA, del] <;> rfl | fail) ?_; simp [hne, hne2, hmr, Ne.symm hmr, h0, zzA, del])
  | (refine CallP.okL (hx _ (by first | omega | (simp <;> omega) | fail) ht) (by first | (simp [hne, hne2, hmr, Ne.symm hmr, h0, zzA, del, zaa, getK, zab, zac, zad, zar, del]; done) | fail) (by rfl) (by first | assumption | (simp; done) | fail) (by rfl) (by simp) ?_; (try simp [hne, hne2, hmr, Ne.symm hmr, h0, zzA, del, zc0, del]))
  | fail)
   (refine EndW.z ([(m, mOb lets r g), (r, tOb T)]) (N := nx) Tryz.results98 (by simp [hm, hr, hne, hne2, hmr, Ne.symm hmr, zaq, zaV] <;> omega) ?_; simp [hm, hr, hne, hne2, hmr, Ne.symm hmr, zaq, zaV])
  ·simp only [ha, decide_false] at htr ⊢;refine RetX.runW Tryz.func98 Tryz.ntmps98 rfl (by simp) fun Γ hn hpan => ?_
   repeat' (first
  | (refine zaf rfl ?_; simp [hne, hne2, hmr, Ne.symm hmr, h0, zzA, del, ha])
  | (refine CallP.f2 rfl (htr) (by first | simp [hne, hne2, hmr, Ne.symm hmr, h0, zzA, del, ha] <;> rfl | fail) ?_; simp [hne, hne2, hmr, Ne.symm hmr, h0, zzA, del, ha])
  | (refine CallP.okL (hx _ (by first | omega | (simp <;> omega) | fail) ht) (by first | (simp [hne, hne2, hmr, Ne.symm hmr, h0, zzA, del, ha, zaa, getK, zab, zac, zad, zar, del]; done) | fail) (by rfl) (by first | assumption | (simp; done) | fail) (by rfl) (by simp) ?_; (try simp [hne, hne2, hmr, Ne.symm hmr, h0, zzA, del, ha, zc0, del]))
  | fail)
   (refine EndW.z ([(m, mOb lets r g), (r, tOb T)]) (N := nx) Tryz.results98 (by simp [hm, hr, hne, hne2, hmr, Ne.symm hmr, zaq, zaV] <;> omega) ?_; simp [hm, hr, hne, hne2, hmr, Ne.symm hmr, zaq, zaV])
theorem zss {lets : List Let} {r : Nat} {g : GM} {m n : Nat} {e x y z : Exp} (hmr : m ≠ r) (h0 : e.op = 13) (he : e.args = [x, y, z]) (hVx : zet lets r g m n x) (hTx : TMok lets.length (valL lets (gF g) n x)) (hVy : zet lets r g m n y) (hTy : TMok lets.length (valL lets (gF g) n y)) (hVz : zet lets r g m n z) (hTz : TMok lets.length (valL lets (gF g) n z)) : zet lets r g m n e := by
 intro t nx hm hr ht;have hne := nef hm;have hne2 := nef hr;unfold zdo;have hx := zes hVx e 0 (by rw [he]; rfl) hmr nx hm hr t;have hxok := hTx t ht;rcases hvx : valL lets (gF g) n x t with ⟨er | a, t1⟩
 ·obtain ⟨T, rfl⟩ : ∃ T, T = t1 := ⟨_, rfl⟩;rw [zgD (by omega) (by omega) he hvx];simp only [hvx, zdl] at hx ⊢;refine RetX.runW Tryz.func98 Tryz.ntmps98 rfl (by simp) fun Γ hn hpan => ?_
  repeat' (first
  | (refine zaf rfl ?_; simp [hne, hne2, hmr, Ne.symm hmr, h0, zzA, del])
  | (refine CallP.zkQ (hx _ (by first | omega | (simp <;> omega) | fail) ht) (by first | (simp [hne, hne2, hmr, Ne.symm hmr, h0, zzA, del, zaa, getK, zab, zac, zad, zar, del]; done) | fail) (by rfl) (by first | assumption | (simp; done) | fail) (by rfl) (by simp) ?_; refine ⟨_, Wk.refl _, ?_⟩; (try simp [hne, hne2, hmr, Ne.symm hmr, h0, zzA, del, zc0, del]))
  | fail)
  (refine hpan _ _ (PanG.k ([(m, mOb lets r g), (r, tOb T)]) (nx) (by simp [hn, hm, hr, hne, hne2, hmr, Ne.symm hmr, zaq, zaV, zab, zac, zaa, getK] <;> omega) ?_); try simp)
 ·rw [hvx] at hxok;simp only [hvx, zdl] at hx;have hxok1 := hxok.1;simp only at hxok1;have hy := zes hVy e 1 (by rw [he]; rfl) hmr nx hm hr t1;have hyok := hTy t1 hxok1;have hz := zes hVz e 2 (by rw [he]; rfl) hmr nx hm hr t1;by_cases ha : a = 0
  ·subst ha;rw [zsz h0 he hvx];rcases hvz : valL lets (gF g) n z t1 with ⟨er | b, T⟩
   ·simp only [hvz, zdl] at hz ⊢;refine RetX.runW Tryz.func98 Tryz.ntmps98 rfl (by simp) fun Γ hn hpan => ?_
    repeat' (first
  | (refine zaf rfl ?_; simp [hne, hne2, hmr, Ne.symm hmr, h0, zzA, del])
  | (refine CallP.okL (hx _ (by first | omega | (simp <;> omega) | fail) ht) (by first | (simp [hne, hne2, hmr, Ne.symm hmr, h0, zzA, del, zaa, getK, zab, zac, zad, zar, del]; done) | fail) (by rfl) (by first | assumption | (simp; done) | fail) (by rfl) (by simp) ?_; (try simp [hne, hne2, hmr, Ne.symm hmr, h0, zzA, del, zc0, del]))
  | (refine CallP.zkQ (hz _ (by first | omega | (simp <;> omega) | fail) hxok1) (by first | (simp [hne, hne2, hmr, Ne.symm hmr, h0, zzA, del, zaa, getK, zab, zac, zad, zar, del]; done) | fail) (by rfl) (by first | assumption | (simp; done) | fail) (by rfl) (by simp) ?_; refine ⟨_, Wk.refl _, ?_⟩; (try simp [hne, hne2, hmr, Ne.symm hmr, h0, zzA, del, zc0, del]))
  | fail)
    (refine hpan _ _ (PanG.k ([(m, mOb lets r g), (r, tOb T)]) (nx) (by simp [hn, hm, hr, hne, hne2, hmr, Ne.symm hmr, zaq, zaV, zab, zac, zaa, getK] <;> omega) ?_); try simp)
   ·simp only [hvz, zdl] at hz ⊢;refine RetX.runW Tryz.func98 Tryz.ntmps98 rfl (by simp) fun Γ hn hpan => ?_
    repeat' (first
  | (refine zaf rfl ?_; simp [hne, hne2, hmr, Ne.symm hmr, h0, zzA, del])
  | (refine CallP.okL (hx _ (by first | omega | (simp <;> omega) | fail) ht) (by first | (simp [hne, hne2, hmr, Ne.symm hmr, h0, zzA, del, zaa, getK, zab, zac, zad, zar, del]; done) | fail) (by rfl) (by first | assumption | (simp; done) | fail) (by rfl) (by simp) ?_; (try simp [hne, hne2, hmr, Ne.symm hmr, h0, zzA, del, zc0, del]))
  | (refine CallP.okL (hz _ (by first | omega | (simp <;> omega) | fail) hxok1) (by first | (simp [hne, hne2, hmr, Ne.symm hmr, h0, zzA, del, zaa, getK, zab, zac, zad, zar, del]; done) | fail) (by rfl) (by first | assumption | (simp; done) | fail) (by rfl) (by simp) ?_; (try simp [hne, hne2, hmr, Ne.symm hmr, h0, zzA, del, zc0, del]))
  | fail)
    (refine EndW.z ([(m, mOb lets r g), (r, tOb T)]) (N := nx) Tryz.results98 (by simp [hm, hr, hne, hne2, hmr, Ne.symm hmr, zaq, zaV] <;> omega) ?_; simp [hm, hr, hne, hne2, hmr, Ne.symm hmr, zaq, zaV])
  ·rw [zsy h0 he hvx ha];rcases hvy : valL lets (gF g) n y t1 with ⟨er | b, T⟩
   ·simp only [hvy, zdl] at hy ⊢;refine RetX.runW Tryz.func98 Tryz.ntmps98 rfl (by simp) fun Γ hn hpan => ?_
    repeat' (first
  | (refine zaf rfl ?_; simp [hne, hne2, hmr, Ne.symm hmr, h0, zzA, del, ha])
  | (refine CallP.okL (hx _ (by first | omega | (simp <;> omega) | fail) ht) (by first | (simp [hne, hne2, hmr, Ne.symm hmr, h0, zzA, del, ha, zaa, getK, zab, zac, zad, zar, del]; done) | fail) (by rfl) (by first | assumption | (simp; done) | fail) (by rfl) (by simp) ?_; (try simp [hne, hne2, hmr, Ne.symm hmr, h0, zzA, del, ha, zc0, del]))
  | (refine CallP.zkQ (hy _ (by first | omega | (simp <;> omega) | fail) hxok1) (by first | (simp [hne, hne2, hmr, Ne.symm hmr, h0, zzA, del, ha, zaa, getK, zab, zac, zad, zar, del]; done) | fail) (by rfl) (by first | assumption | (simp; done) | fail) (by rfl) (by simp) ?_; refine ⟨_, Wk.refl _, ?_⟩; (try simp [hne, hne2, hmr, Ne.symm hmr, h0, zzA, del, ha, zc0, del]))
  | fail)
    (refine hpan _ _ (PanG.k ([(m, mOb lets r g), (r, tOb T)]) (nx) (by simp [hn, hm, hr, hne, hne2, hmr, Ne.symm hmr, zaq, zaV, zab, zac, zaa, getK] <;> omega) ?_); try simp)
   ·simp only [hvy, zdl] at hy ⊢;refine RetX.runW Tryz.func98 Tryz.ntmps98 rfl (by simp) fun Γ hn hpan => ?_
    repeat' (first
  | (refine zaf rfl ?_; simp [hne, hne2, hmr, Ne.symm hmr, h0, zzA, del, ha])
  | (refine CallP.okL (hx _ (by first | omega | (simp <;> omega) | fail) ht) (by first | (simp [hne, hne2, hmr, Ne.symm hmr, h0, zzA, del, ha, zaa, getK, zab, zac, zad, zar, del]; done) | fail) (by rfl) (by first | assumption | (simp; done) | fail) (by rfl) (by simp) ?_; (try simp [hne, hne2, hmr, Ne.symm hmr, h0, zzA, del, ha, zc0, del]))
  | (refine CallP.okL (hy _ (by first | omega | (simp <;> omega) | fail) hxok1) (by first | (simp [hne, hne2, hmr, Ne.symm hmr, h0, zzA, del, ha, zaa, getK, zab, zac, zad, zar, del]; done) | fail) (by rfl) (by first | assumption | (simp; done) | fail) (by rfl) (by simp) ?_; (try simp [hne, hne2, hmr, Ne.symm hmr, h0, zzA, del, ha, zc0, del]))
  | fail)
    (refine EndW.z ([(m, mOb lets r g), (r, tOb T)]) (N := nx) Tryz.results98 (by simp [hm, hr, hne, hne2, hmr, Ne.symm hmr, zaq, zaV] <;> omega) ?_; simp [hm, hr, hne, hne2, hmr, Ne.symm hmr, zaq, zaV])
theorem zpX {lets : List Let} {r : Nat} {g : GM} {m n : Nat} {e x y : Exp} (hmr : m ≠ r) (hop : 2 <= e.op /\ e.op <= 9) (hl : lets.length <= 20) (hnl : n <= lets.length) (he : e.args = [x, y]) (hVx : zet lets r g m n x) (hTx : TMok lets.length (valL lets (gF g) n x)) (hVy : zet lets r g m n y) (hTy : TMok lets.length (valL lets (gF g) n y)) : zet lets r g m n e := by
 intro t nx hm hr ht;have hne := nef hm;have hne2 := nef hr;unfold zdo;have c0 : ¬ e.op = 0 := by omega
 have c1 : ¬ e.op = 1 := by omega
 have c2 : ¬ e.op = 10 := by omega
 have c3 : ¬ e.op = 11 := by omega
 have c4 : ¬ e.op = 12 := by omega
 have c5 : ¬ e.op = 13 := by omega
 have hx := zes hVx e 0 (by rw [he]; rfl) hmr nx hm hr t;have hxok := hTx t ht;rcases hvx : valL lets (gF g) n x t with ⟨er | a, t1⟩
 ·obtain ⟨T, rfl⟩ : ∃ T, T = t1 := ⟨_, rfl⟩;rw [zgD (by omega) (by omega) he hvx];simp only [hvx, zdl] at hx ⊢;refine RetX.runW Tryz.func98 Tryz.ntmps98 rfl (by simp) fun Γ hn hpan => ?_
  repeat' (first
  | (refine zh4 (fun nx' h' => hx nx' (by simp at h'; omega) ht) (by first | (simp [hne, hne2, hmr, Ne.symm hmr, c0, c1, c2, c3, c4, c5, zzA, del, zaa, getK, zab, zac, zad, zar, del]; done) | fail) (by rfl) (by first | assumption | (simp; done) | fail) (by rfl) (by simp) ?_ ?_; intro env' n' hn'; refine ⟨_, Wk.refl _, ?_⟩; (try simp [hne, hne2, hmr, Ne.symm hmr, c0, c1, c2, c3, c4, c5, zzA, del, zc0, del]))
  | (refine zmk rfl (by simp) ?_; simp)
  | (refine zbP rfl ?_; simp [hne, hne2, hmr, Ne.symm hmr, c0, c1, c2, c3, c4, c5, zzA, del]; (fail_if_success (guard_target =ₛ False)))
  | (refine zaf rfl ?_; simp [hne, hne2, hmr, Ne.symm hmr, c0, c1, c2, c3, c4, c5, zzA, del])
  | (refine zee (hC _ (zb6 [m, r] nx (by simp <;> omega) (by simp <;> omega) (by apply Exists.intro; apply And.intro; (focus (repeat' (first | exact KF.nil | exact KL.nil | apply KF.cons | apply KL.cons 0 rfl | apply KL.cons 1 rfl | apply KL.cons 2 rfl | apply KL.cons 3 rfl | apply KL.cons 4 rfl | apply KL.cons 5 rfl | apply KL.cons 6 rfl | apply KL.cons 7 rfl | apply KL.cons 8 rfl | apply KL.cons 9 rfl))); kernel_rfl))) rfl; done)
  | (refine zdv rfl (by kernel_rfl) (by first | (simp [hn] <;> omega) | fail) fun C k hC hk => ?_; simp [hne, hne2, hmr, Ne.symm hmr, c0, c1, c2, c3, c4, c5, zzA, del])
  | fail)
  (refine hpan _ _ (PanG.k ([(m, mOb lets r g), (r, tOb T)]) (nx) (by simp [hn, hm, hr, hne, hne2, hmr, Ne.symm hmr, zaq, zaV, zab, zac, zaa, getK] <;> omega) ?_); try simp)
 ·rw [hvx] at hxok;simp only [hvx, zdl] at hx;have hxok1 := hxok.1;simp only at hxok1;have hy := zes hVy e 1 (by rw [he]; rfl) hmr nx hm hr t1;have hyok := hTy t1 hxok1;have hx1 := fun nx' h1 h2 h3 => zod (v := a) (t1 := t1) hVx e 0 (by rw [he]; rfl) hmr nx hm hr t nx' h1 h2 h3;have hy1 := fun v T nx' h1 h2 h3 => zod (v := v) (t1 := T) hVy e 1 (by rw [he]; rfl) hmr nx hm hr t1 nx' h1 h2 h3;rcases hvy : valL lets (gF g) n y t1 with ⟨er | b, T⟩
  ·rw [zp1 hop he hvx hvy];simp only [hvy, zdl] at hy ⊢;refine RetX.runW Tryz.func98 Tryz.ntmps98 rfl (by simp) fun Γ hn hpan => ?_
   repeat' (first
  | (refine zi2 (fun nx' h' => hx1 nx' (by simp at h'; omega) ht hvx) (by first | (simp [hne, hne2, hmr, Ne.symm hmr, c0, c1, c2, c3, c4, c5, zzA, del, zaa, getK, zab, zac, zad, zar, del]; done) | fail) (by first | (simp [hne, hne2, hmr, Ne.symm hmr, c0, c1, c2, c3, c4, c5, zzA, del]; done) | fail) (by rfl) (by first | assumption | (simp; done) | fail) (by rfl) (by first | (simp [hne, hne2, hmr, Ne.symm hmr, c0, c1, c2, c3, c4, c5, zzA, del, D.under, Ob.under, zaj, zak]; done) | (simp [hne, hne2, hmr, Ne.symm hmr, c0, c1, c2, c3, c4, c5, zzA, del, D.under, Ob.under, zaj, zak]; omega) | fail) (by simp) ?_; (try simp [hne, hne2, hmr, Ne.symm hmr, c0, c1, c2, c3, c4, c5, zzA, del]))
  | (refine zh4 (fun nx' h' => hy nx' (by simp at h'; omega) hxok1) (by first | (simp [hne, hne2, hmr, Ne.symm hmr, c0, c1, c2, c3, c4, c5, zzA, del, zaa, getK, zab, zac, zad, zar, del]; done) | fail) (by rfl) (by first | assumption | (simp; done) | fail) (by rfl) (by simp) ?_ ?_; intro env' n' hn'; refine ⟨_, Wk.refl _, ?_⟩; (try simp [hne, hne2, hmr, Ne.symm hmr, c0, c1, c2, c3, c4, c5, zzA, del, zc0, del]))
  | (refine zmk rfl (by simp) ?_; simp)
  | (refine zbP rfl ?_; simp [hne, hne2, hmr, Ne.symm hmr, c0, c1, c2, c3, c4, c5, zzA, del]; (fail_if_success (guard_target =ₛ False)))
  | (refine zaf rfl ?_; simp [hne, hne2, hmr, Ne.symm hmr, c0, c1, c2, c3, c4, c5, zzA, del])
  | (refine zee (hC _ (zb6 [m, r] nx (by simp <;> omega) (by simp <;> omega) (by apply Exists.intro; apply And.intro; (focus (repeat' (first | exact KF.nil | exact KL.nil | apply KF.cons | apply KL.cons 0 rfl | apply KL.cons 1 rfl | apply KL.cons 2 rfl | apply KL.cons 3 rfl | apply KL.cons 4 rfl | apply KL.cons 5 rfl | apply KL.cons 6 rfl | apply KL.cons 7 rfl | apply KL.cons 8 rfl | apply KL.cons 9 rfl))); kernel_rfl))) rfl; done)
  | (refine zdv rfl (by kernel_rfl) (by first | (simp [hn] <;> omega) | fail) fun C k hC hk => ?_; simp [hne, hne2, hmr, Ne.symm hmr, c0, c1, c2, c3, c4, c5, zzA, del])
  | fail)
   (refine hpan _ _ (PanG.k ([(m, mOb lets r g), (r, tOb T)]) (nx) (by simp [hn, hm, hr, hne, hne2, hmr, Ne.symm hmr, zaq, zaV, zab, zac, zaa, getK] <;> omega) ?_); try simp)
  ·rw [zsA hop he hvx hvy];rw [hvy] at hyok;have hb := fun nx' (h : nx <= nx') => zpH lets r g m nx' (by omega) (by omega) e x y a b n hnl hl he (hxok.2.1 a rfl) (hyok.2.1 b rfl) hop;simp only [hvy, zdl] at hy ⊢;unfold zdo at hb;cases hbx : zjk e.op (zdH (lets.take n) x || zdH (lets.take n) y) a b with
   | error er =>
    simp only [hbx, zdl] at hb ⊢;refine RetX.runW Tryz.func98 Tryz.ntmps98 rfl (by simp) fun Γ hn hpan => ?_
    repeat' (first
  | (refine zi2 (fun nx' h' => hx1 nx' (by simp at h'; omega) ht hvx) (by first | (simp [hne, hne2, hmr, Ne.symm hmr, c0, c1, c2, c3, c4, c5, zzA, del, zaa, getK, zab, zac, zad, zar, del]; done) | fail) (by first | (simp [hne, hne2, hmr, Ne.symm hmr, c0, c1, c2, c3, c4, c5, zzA, del]; done) | fail) (by rfl) (by first | assumption | (simp; done) | fail) (by rfl) (by first | (simp [hne, hne2, hmr, Ne.symm hmr, c0, c1, c2, c3, c4, c5, zzA, del, D.under, Ob.under, zaj, zak]; done) | (simp [hne, hne2, hmr, Ne.symm hmr, c0, c1, c2, c3, c4, c5, zzA, del, D.under, Ob.under, zaj, zak]; omega) | fail) (by simp) ?_; (try simp [hne, hne2, hmr, Ne.symm hmr, c0, c1, c2, c3, c4, c5, zzA, del]))
  | (refine zi2 (fun nx' h' => hy1 _ _ nx' (by simp at h'; omega) hxok1 hvy) (by first | (simp [hne, hne2, hmr, Ne.symm hmr, c0, c1, c2, c3, c4, c5, zzA, del, zaa, getK, zab, zac, zad, zar, del]; done) | fail) (by first | (simp [hne, hne2, hmr, Ne.symm hmr, c0, c1, c2, c3, c4, c5, zzA, del]; done) | fail) (by rfl) (by first | assumption | (simp; done) | fail) (by rfl) (by first | (simp [hne, hne2, hmr, Ne.symm hmr, c0, c1, c2, c3, c4, c5, zzA, del, D.under, Ob.under, zaj, zak]; done) | (simp [hne, hne2, hmr, Ne.symm hmr, c0, c1, c2, c3, c4, c5, zzA, del, D.under, Ob.under, zaj, zak]; omega) | fail) (by simp) ?_; (try simp [hne, hne2, hmr, Ne.symm hmr, c0, c1, c2, c3, c4, c5, zzA, del]))
  | (refine zh4 (fun nx' h' => hb nx' (by simp at h'; omega)) (by first | (simp [hne, hne2, hmr, Ne.symm hmr, c0, c1, c2, c3, c4, c5, zzA, del, zaa, getK, zab, zac, zad, zar, del]; done) | fail) (by rfl) (by first | assumption | (simp; done) | fail) (by rfl) (by simp) ?_ ?_; intro env' n' hn'; refine ⟨_, Wk.refl _, ?_⟩; (try simp [hne, hne2, hmr, Ne.symm hmr, c0, c1, c2, c3, c4, c5, zzA, del, zc0, del]))
  | (refine zbP rfl ?_; simp [hne, hne2, hmr, Ne.symm hmr, c0, c1, c2, c3, c4, c5, zzA, del]; (fail_if_success (guard_target =ₛ False)))
  | (refine zaf rfl ?_; simp [hne, hne2, hmr, Ne.symm hmr, c0, c1, c2, c3, c4, c5, zzA, del])
  | (refine zee (hC _ (zb6 [m, r] nx (by simp <;> omega) (by simp <;> omega) (by apply Exists.intro; apply And.intro; (focus (repeat' (first | exact KF.nil | exact KL.nil | apply KF.cons | apply KL.cons 0 rfl | apply KL.cons 1 rfl | apply KL.cons 2 rfl | apply KL.cons 3 rfl | apply KL.cons 4 rfl | apply KL.cons 5 rfl | apply KL.cons 6 rfl | apply KL.cons 7 rfl | apply KL.cons 8 rfl | apply KL.cons 9 rfl))); kernel_rfl))) rfl; done)
  | (refine zdv rfl (by kernel_rfl) (by first | (simp [hn] <;> omega) | fail) fun C k hC hk => ?_; simp [hne, hne2, hmr, Ne.symm hmr, c0, c1, c2, c3, c4, c5, zzA, del])
  | fail)
    (refine hpan _ _ (PanG.k ([(m, mOb lets r g), (r, tOb T)]) (nx) (by simp [hn, hm, hr, hne, hne2, hmr, Ne.symm hmr, zaq, zaV, zab, zac, zaa, getK] <;> omega) ?_); try simp)
   | ok v =>
    simp only [hbx, zdl] at hb ⊢;refine RetX.runW Tryz.func98 Tryz.ntmps98 rfl (by simp) fun Γ hn hpan => ?_
    repeat' (first
  | (refine zi2 (fun nx' h' => hx1 nx' (by simp at h'; omega) ht hvx) (by first | (simp [hne, hne2, hmr, Ne.symm hmr, c0, c1, c2, c3, c4, c5, zzA, del, zaa, getK, zab, zac, zad, zar, del]; done) | fail) (by first | (simp [hne, hne2, hmr, Ne.symm hmr, c0, c1, c2, c3, c4, c5, zzA, del]; done) | fail) (by rfl) (by first | assumption | (simp; done) | fail) (by rfl) (by first | (simp [hne, hne2, hmr, Ne.symm hmr, c0, c1, c2, c3, c4, c5, zzA, del, D.under, Ob.under, zaj, zak]; done) | (simp [hne, hne2, hmr, Ne.symm hmr, c0, c1, c2, c3, c4, c5, zzA, del, D.under, Ob.under, zaj, zak]; omega) | fail) (by simp) ?_; (try simp [hne, hne2, hmr, Ne.symm hmr, c0, c1, c2, c3, c4, c5, zzA, del]))
  | (refine zi2 (fun nx' h' => hy1 _ _ nx' (by simp at h'; omega) hxok1 hvy) (by first | (simp [hne, hne2, hmr, Ne.symm hmr, c0, c1, c2, c3, c4, c5, zzA, del, zaa, getK, zab, zac, zad, zar, del]; done) | fail) (by first | (simp [hne, hne2, hmr, Ne.symm hmr, c0, c1, c2, c3, c4, c5, zzA, del]; done) | fail) (by rfl) (by first | assumption | (simp; done) | fail) (by rfl) (by first | (simp [hne, hne2, hmr, Ne.symm hmr, c0, c1, c2, c3, c4, c5, zzA, del, D.under, Ob.under, zaj, zak]; done) | (simp [hne, hne2, hmr, Ne.symm hmr, c0, c1, c2, c3, c4, c5, zzA, del, D.under, Ob.under, zaj, zak]; omega) | fail) (by simp) ?_; (try simp [hne, hne2, hmr, Ne.symm hmr, c0, c1, c2, c3, c4, c5, zzA, del]))
  | (refine zsj (fun nx' h' => hb nx' (by simp at h'; omega)) (by first | (simp [hne, hne2, hmr, Ne.symm hmr, c0, c1, c2, c3, c4, c5, zzA, del, zaa, getK, zab, zac, zad, zar, del]; done) | fail) rfl (by first | (simp [hne, hne2, hmr, Ne.symm hmr, c0, c1, c2, c3, c4, c5, zzA, del]; done) | fail) (by rfl) (by first | assumption | (simp; done) | fail) (by rfl) (by first | (simp [hne, hne2, hmr, Ne.symm hmr, c0, c1, c2, c3, c4, c5, zzA, del, D.under, Ob.under, zaj, zak]; done) | (simp [hne, hne2, hmr, Ne.symm hmr, c0, c1, c2, c3, c4, c5, zzA, del, D.under, Ob.under, zaj, zak]; omega) | fail) (by simp) ?_; (try simp [hne, hne2, hmr, Ne.symm hmr, c0, c1, c2, c3, c4, c5, zzA, del]))
  | (refine zaf rfl ?_; simp [hne, hne2, hmr, Ne.symm hmr, c0, c1, c2, c3, c4, c5, zzA, del])
  | (refine ⟨hC _ (zb6 [m, r] nx (by simp <;> omega) (by simp <;> omega) (by apply Exists.intro; apply And.intro; (focus (repeat' (first | exact KF.nil | exact KL.nil | apply KF.cons | apply KL.cons 0 rfl | apply KL.cons 1 rfl | apply KL.cons 2 rfl | apply KL.cons 3 rfl | apply KL.cons 4 rfl | apply KL.cons 5 rfl | apply KL.cons 6 rfl | apply KL.cons 7 rfl | apply KL.cons 8 rfl | apply KL.cons 9 rfl))); kernel_rfl)), hk _ (zdG 8 _ _ _ ?_)⟩; clear hC hk C k; simp [hne, hne2, hmr, Ne.symm hmr, c0, c1, c2, c3, c4, c5, zzA, del])
  | (refine zdv rfl (by kernel_rfl) (by first | (simp [hn] <;> omega) | fail) fun C k hC hk => ?_; simp [hne, hne2, hmr, Ne.symm hmr, c0, c1, c2, c3, c4, c5, zzA, del])
  | (refine zcB rfl ?_; simp [hne, hne2, hmr, Ne.symm hmr, c0, c1, c2, c3, c4, c5, zzA, del])
  | fail)
    (refine EndW.z ([(m, mOb lets r g), (r, tOb T)]) (N := nx) Tryz.results98 (by simp [hm, hr, hne, hne2, hmr, Ne.symm hmr, zaq, zaV] <;> omega) ?_; simp [hm, hr, hne, hne2, hmr, Ne.symm hmr, zaq, zaV])
theorem zdk (l : List Tok) (p : Nat) (t : Tok) (hp : l[p]? = some t) (hl : l.length <= 1000000) : Fun Tryz.prog 89 [.u (zuo l p)] (· = .u (.agg [.int .i64 t.kind, .str t.text, .int .i64 t.n, .int .i64 t.pos])) := by
 have hlt := (List.getElem?_eq_some_iff.1 hp).1;unfold zuo zqb;refine Fun.run Tryz.func89 Tryz.ntmps89 Tryz.results89 rfl (by simp) fun Γ hn => ?_
 repeat' (first
  | (refine zaf rfl ?_; simp [hp])
  | (refine ⟨hC _ (by kernel_rfl), hk _ (zdG 8 _ _ _ ?_)⟩; clear hC hk C k; simp [hp])
  | (refine zdv rfl (by kernel_rfl) (by first | (simp [hn] <;> omega) | fail) fun C k hC hk => ?_; simp [hp])
  | fail)
 (refine Pst.of ?_; simp)
theorem zfq (l : List Tok) (p : Nat) (w : List UInt8) (hp : p < l.length) (hl : l.length <= 1000000) : Fun Tryz.prog 86 [.u (zuo l p), .u (.str w)] (· = .u (.bool (isB l p w))) := by
 obtain ⟨t, ht⟩ : ∃ t, l[p]? = some t := ⟨_, List.getElem?_eq_getElem hp⟩;have hnx := zdk l p t ht hl;unfold isB;rw [ht];unfold zuo zqb at *;by_cases h1 : t.kind = 0
 ·refine Fun.run Tryz.func86 Tryz.ntmps86 Tryz.results86 rfl (by simp) fun Γ hn => ?_
  repeat' (first
  | (refine zaf rfl ?_; simp [h1])
  | (refine CallP.f2 rfl (hnx) (by first | simp [h1] <;> rfl | fail) ?_; simp [h1])
  | fail)
  all_goals
   (refine Pst.of ?_; simp)
  all_goals simp [h1]
 ·refine Fun.run Tryz.func86 Tryz.ntmps86 Tryz.results86 rfl (by simp) fun Γ hn => ?_
  repeat' (first
  | (refine zaf rfl ?_; simp [h1])
  | (refine CallP.f2 rfl (hnx) (by first | simp [h1] <;> rfl | fail) ?_; simp [h1])
  | fail)
  all_goals
   (refine Pst.of ?_; simp)
  all_goals simp [h1]
theorem zb9 (l : List Tok) (p : Nat) (w : List UInt8) (i nx : Nat) (hi : i < nx) (hp : p < l.length) (hl : l.length <= 1000000) :
  RetX Tryz.prog 115 [.ptr i 0, .u (.str w)] [(i, pOb l p)] nx (fun r o n => r = .val (.u (.bool (isB l p w))) /\ o = [(i, pOb l (if isB l p w = true then p + 1 else p))] /\ n = nx) := by
 have h1 := zfq l p w hp hl;unfold pOb zuo zqb at *;cases hb : isB l p w with
 | false =>
  rw [hb] at h1;refine RetX.runW Tryz.func115 Tryz.ntmps115 rfl (by simp) fun Γ hn hpan => ?_
  repeat' (first
  | (refine zaf rfl ?_; simp)
  | (refine CallP.f2 rfl (h1) (by first | simp <;> rfl | fail) ?_; simp)
  | fail)
  (refine EndW.h Tryz.results115 ?_; simp)
 | true =>
  rw [hb] at h1;refine RetX.runW Tryz.func115 Tryz.ntmps115 rfl (by simp) fun Γ hn hpan => ?_
  repeat' (first
  | (refine zaf rfl ?_; simp)
  | (refine And.intro (by omega) ?_)
  | (refine CallP.f2 rfl (h1) (by first | simp <;> rfl | fail) ?_; simp)
  | fail)
  (refine EndW.h Tryz.results115 ?_; simp)
def chP (pos e : Int) : List PanicEntry := [{ v := .iface 149 (.agg #[.int .i64 pos, .int .i64 e]), recovered := false }]
def isP (l : List Tok) (ob : Ob) : Prop := ∃ q : Nat, ob = pOb l q
theorem zf8 (l : List Tok) (p : Nat) (e : Int) (i nx : Nat) (hi : i < nx) :
  RetX Tryz.prog 85 [.ptr i 0, .u (.bool true), .u (.int .i64 e)] [(i, pOb l p)] nx (fun r o n => r = .val (.tup []) /\ o = [(i, pOb l p)] /\ n = nx) := by
 refine RetX.runW Tryz.func85 Tryz.ntmps85 rfl (by simp) fun Γ hn hpan => ?_
 repeat' (first
  | (refine zaf rfl ?_; simp)
  | fail)
 (refine EndW.h Tryz.results85 ?_; simp)
theorem zeq (l : List Tok) (p : Nat) (t : Tok) (e : Int) (i nx : Nat) (hi : i < nx) (hp : l[p]? = some t) (hl : l.length <= 1000000) :
  RetX Tryz.prog 85 [.ptr i 0, .u (.bool false), .u (.int .i64 e)] [(i, pOb l p)] nx (fun r o n => r = .pan (chP t.pos e) /\ (∃ ob', isP l ob' /\ o = [(i, ob')]) /\ n = nx) := by
 have h1 := zdk l p t hp hl;refine RetX.runW Tryz.func85 Tryz.ntmps85 rfl (by simp) fun Γ hn hpan => ?_
 repeat' (first
  | (refine zaf rfl ?_; simp)
  | (refine CallP.f2 rfl (h1) (by first | simp <;> rfl | fail) ?_; simp)
  | fail)
 all_goals
  (refine hpan _ _ (PanG.k ([(i, pOb l p)]) (nx) (by simp [hn, hi] <;> omega) ?_); try simp)
  all_goals exact ⟨rfl, p, rfl⟩
inductive PR (α : Type) where
 | ok (a : α) (p : Nat)
 | stop (pos e : Int)
def zel (l : List Tok) (p : Nat) : Int := match l[p]? with | some t => t.pos | none => 0
def zcV (l : List Tok) : Nat -> List (List UInt8) -> PR Unit
 | p, [] => .ok () p
 | p, w :: ws => if isB l p w = true then zcV l (p + 1) ws else .stop (zel l p) 12
def PPost {α : Type} (l : List Tok) (i nx : Nat) (val : α -> D) : PR α -> Out -> List (Nat × Ob) -> Nat -> Prop
 | .ok a q, o, obs, n => o = .val (val a) /\ obs = [(i, pOb l q)] /\ n = nx
 | .stop pos e, o, obs, n => o = .pan (chP pos e) /\ (∃ ob', isP l ob' /\ obs = [(i, ob')]) /\ n = nx
theorem zj8 (l : List Tok) (p : Nat) (ws : List (List UInt8)) (i nx : Nat) (hi : i < nx) (hp : p < l.length) (hl : TokOK l) (hw : ws.length <= 100) :
  RetX Tryz.prog 91 [.ptr i 0, .u (.sl (ws.map fun w => [.str w]))] [(i, pOb l p)] nx (PPost l i nx (fun _ => .tup []) (zcV l p ws)) := by
 refine RetX.runW Tryz.func91 Tryz.ntmps91 rfl (by simp) fun Γ hn hpan => ?_
 repeat' (first
  | (refine zaf rfl ?_; simp)
  | fail)
 refine zbZ (α := { x : Nat × Nat // x.1 <= ws.length /\ x.2 < l.length /\ zcV l p ws = zcV l x.2 (ws.drop x.1) }) [0, 6, 7] (fun x => [(8, .u (.int .i64 x.1.1))]) (fun x => [(i, pOb l x.1.2)]) nx (fun x => ws.length - x.1.1) ⟨(0, p), by simp, hp, by simp⟩ ?_ ?_
 ·exact (Wk.zdz (by simp [hn, hi] <;> grind))
 rintro ⟨⟨k, q⟩, h1, h2, h3⟩;simp only at h1 h2 h3;simp;rcases hx : ws[k]? with _ | w
 ·have hge : ws.length <= k := by simpa using hx
  obtain rfl : k = ws.length := by omega
  rw [List.drop_length, zcV] at h3
  repeat' (first
  | (refine zaf rfl ?_; simp [hx])
  | fail)
  rw [h3]
  (refine EndW.h Tryz.results91 ?_; simp)
  simp [PPost]
 ·have hlt : k < ws.length := (List.getElem?_eq_some_iff.1 hx).1;have hd : ws.drop k = w :: ws.drop (k + 1) := by
   obtain ⟨h5, h6⟩ := List.getElem?_eq_some_iff.1 hx;rw [<- h6, List.getElem_cons_drop]
  rw [hd, zcV] at h3;have hh := zb9 l q w i nx hi h2 hl.len;by_cases hb : isB l q w = true
  ·rw [if_pos hb] at h3;rw [hb, if_pos rfl] at hh;have hq := zbR hl hb;have hck := zf8 l (q + 1) 12 i nx hi
   repeat' (first
  | (refine Cnd.of (fun hc => ?_) (fun hc => ?_) <;> (try (exfalso; omega)) <;> (try simp [hx]))
  | (refine zaf rfl ?_; simp [hx])
  | (refine And.intro (by omega) ?_)
  | (refine CallP.ok1 (hh) (by first | (simp [hx, zaa, getK, zab, zac]; done) | fail) (by rfl) (by first | assumption | (simp; done) | fail) (by rfl) (by simp) ?_; (try simp [hx]))
  | (refine CallP.ok1 (hck) (by first | (simp [hx, zaa, getK, zab, zac]; done) | fail) (by rfl) (by first | assumption | (simp; done) | fail) (by rfl) (by simp) ?_; (try simp [hx]))
  | fail)
   refine LoopW.next ⟨(k + 1, q + 1), by omega, hq, h3⟩ (by simp; omega) ?_
   exact (Wk.zdz (by simp [hn, hi, zab, zac, zaa, getK] <;> grind))
  ·have hb2 : isB l q w = false := by simpa using hb
   rw [if_neg hb] at h3;rw [hb2, if_neg (by simp)] at hh;obtain ⟨t, ht⟩ : ∃ t, l[q]? = some t := ⟨_, List.getElem?_eq_getElem h2⟩;have hck := zeq l q t 12 i nx hi ht hl.len
   repeat' (first
  | (refine Cnd.of (fun hc => ?_) (fun hc => ?_) <;> (try (exfalso; omega)) <;> (try simp [hx]))
  | (refine zaf rfl ?_; simp [hx])
  | (refine CallP.ok1 (hh) (by first | (simp [hx, zaa, getK, zab, zac]; done) | fail) (by rfl) (by first | assumption | (simp; done) | fail) (by rfl) (by simp) ?_; (try simp [hx]))
  | (refine CallP.zgg (hck) (by first | (simp [hx, zaa, getK, zab, zac]; done) | fail) (by rfl) (by first | assumption | (simp; done) | fail) (by rfl) (by simp) ?_; rintro ob' ⟨q', rfl⟩; refine ⟨_, Wk.refl _, ?_⟩)
  | fail)
   rw [h3] at hpan
   (refine hpan _ _ (PanG.k ([(i, pOb l q')]) (nx) (by simp [hn, hi, zab, zac, zaa, getK] <;> omega) ?_); try simp)
   all_goals exact ⟨by simp [zel, ht], ⟨_, ⟨q', rfl⟩, rfl⟩, rfl⟩
theorem zqO {c : UInt8} {r : List UInt8} {e : Int} (h : zjb (c :: r) = .error e) : e ≠ 0 := by
 unfold zjb at h;simp only at h;split at h
 ·split at h <;> cases h;omega
 ·split at h
  ·split at h <;> cases h;omega
  ·split at h <;> cases h;omega
theorem znU {s : List UInt8} : ∀ (f p : Nat) (q : Nat) (e : Int), zq4 f s p = .error (q, e) -> p <= s.length -> e ≠ 0 /\ q <= s.length
 | 0, p, q, e, h, _ => by simp [zq4] at h
 | f + 1, p, q, e, h, h3 => by
  rw [zq4] at h;have hle := zez zc4 (s.drop p);rw [List.length_drop] at hle;split at h
  ·cases h
  ·rename_i c r hd;have hdl : (s.drop (p + zdu zc4 (s.drop p))).length = r.length + 1 := by rw [hd]; rfl
   rw [List.length_drop] at hdl;split at h
   ·rename_i ht;cases h;exact ⟨zqO ht, by omega⟩
   ·rename_i t ht;obtain ⟨ht1, ht2⟩ := zhl ht;simp only [List.length_cons] at ht2;split at h
    ·rename_i x hx;cases h;exact znU f _ q e hx (by omega)
    ·cases h
theorem zs8 {s : List UInt8} {q : Nat} {e : Int} (h : zpL s = .error (q, e)) : e ≠ 0 /\ q <= s.length := by
 unfold zpL at h;split at h
 ·cases h; exact ⟨by decide, by omega⟩
 ·exact znU _ _ _ _ h (by omega)
end Go.Proofs.YtmlpcgkaonifcaaGreatDoor
namespace Go.Proofs.YtmlpcgkaonifcaaGreatDoor
open Go Go.VL
def zwQ (lets : List Let) (r : Nat) (g : GM) (m n : Nat) (e : Exp) : Prop := ∀ (t : Tab) (nx : Nat), m < nx -> r < nx -> TabOK lets.length t ->
 RetX Tryz.prog 71 [.ptr m 0, zdo e, .u (.int .i64 n)] [(m, mOb lets r g), (r, tOb t)] nx
  (fun o obs n' => o = .val (.tup [.u (.int .i64 (zjX (valL lets (gF g) n e t).1).1), .u (.int .i64 (zjX (valL lets (gF g) n e t).1).2.1)]) /\ obs = [(m, mOb lets r g), (r, tOb (valL lets (gF g) n e t).2)] /\ n' = nx)
end Go.Proofs.YtmlpcgkaonifcaaGreatDoor
namespace Go.Proofs.YtmlpcgkaonifcaaGreatDoor
open Go Go.VL
def PR.bind {α β : Type} : PR α -> (α -> Nat -> PR β) -> PR β
 | .ok a p, f => f a p
 | .stop pos e, _ => .stop pos e
theorem PR.bind_ok {α β : Type} {a : α} {p : Nat} {f : α -> Nat -> PR β} : (PR.ok a p).bind f = f a p := rfl
theorem PR.zdK {α β : Type} {pos e : Int} {f : α -> Nat -> PR β} : (PR.stop pos e : PR α).bind f = .stop pos e := rfl
theorem PR.zaP {α β : Type} {r : PR α} {f : α -> Nat -> PR β} {b : β} {q : Nat} (h : r.bind f = .ok b q) : ∃ a p, r = .ok a p /\ f a p = .ok b q := by
 cases r with
 | ok a p => exact ⟨a, p, rfl, h⟩
 | stop => cases h
theorem PPost.zdw {α : Type} {l i nx} {val : α -> D} {r : PR α} {a : α} {q : Nat} (h : r = .ok a q) {d : D} (hd : d = val a) {o : List (Nat × Ob)} (ho : o = [(i, pOb l q)]) : PPost l i nx val r (.val d) o nx := by
 subst h; subst hd; subst ho; exact ⟨rfl, rfl, rfl⟩
theorem PPost.zbe {α : Type} {l i nx} {val : α -> D} {r : PR α} {pos e : Int} {q : Nat} (h : r = .stop pos e) : PPost l i nx val r (.pan (chP pos e)) [(i, pOb l q)] nx := by
 subst h; exact ⟨rfl, ⟨_, ⟨q, rfl⟩, rfl⟩, rfl⟩
structure Opr where
 text : List UInt8
 op : Int
 form : Int
def oprs : List Opr := [⟨[111, 114], 11, 1⟩, ⟨[97, 110, 100], 10, 2⟩, ⟨[61, 61], 9, 4⟩, ⟨[60], 8, 4⟩, ⟨[43], 2, 5⟩, ⟨[45], 3, 5⟩, ⟨[42], 4, 6⟩, ⟨[47], 5, 6⟩]
def zwm (l : List Tok) (p : Nat) : Option Opr := oprs.find? fun o => isB l p o.text
def zor (l : List Tok) (p : Nat) : PR Int :=
 if isB l p [99, 111, 105, 110, 115] = true then .ok 3 (p + 1)
 else if isB l p [100, 97, 121, 115] = true then .ok 2 (p + 1)
 else if isB l p [112, 101, 114] = true then (zcV l (p + 1) [[109, 105, 108, 108, 101]]).bind fun _ q => .ok 4 q
 else .ok 1 p
mutual
def zfu (l : List Tok) : Nat -> Nat -> Int -> PR Exp
 | 0, _, _ => .stop 0 0
 | f + 1, p, form => (zcy l f p form).bind fun e q => zgd l f form e.1 e.2 q
def zgd (l : List Tok) : Nat -> Int -> Exp -> Int -> Nat -> PR Exp
 | 0, _, _, _, _ => .stop 0 0
 | f + 1, form, e, own, q => match zwm l q with
  | none => .ok e q
  | some x => if x.form < form \/ own < x.form \/ (own = 4 /\ x.form = 4) then .ok e q
   else (zfu l f (q + 1) (x.form + 1)).bind fun e2 r => zgd l f form (.mk x.op 0 0 [] [e, e2]) x.form r
def zcy (l : List Tok) : Nat -> Nat -> Int -> PR (Exp × Int)
 | 0, _, _ => .stop 0 0
 | f + 1, p, form =>
  if form = 0 /\ isB l p [105, 102] = true then
   (zfu l f (p + 1) 0).bind fun a q1 => (zcV l q1 [[116, 104, 101, 110]]).bind fun _ q2 => (zfu l f q2 0).bind fun b q3 =>
   (zcV l q3 [[101, 108, 115, 101]]).bind fun _ q4 => (zfu l f q4 0).bind fun c q5 => .ok (.mk 13 0 0 [] [a, b, c], 0) q5
  else if form <= 3 /\ isB l p [110, 111, 116] = true then (zfu l f (p + 1) 3).bind fun a q => .ok (.mk 12 0 0 [] [a], 3) q
  else (zbG l f p).bind fun e q => .ok (e, 7) q
def zbG (l : List Tok) : Nat -> Nat -> PR Exp
 | 0, _ => .stop 0 0
 | f + 1, p => match l[p]? with
  | none => .stop 0 0
  | some t =>
   if t.kind = 2 then (zor l (p + 1)).bind fun u q => .ok (.mk 0 t.n u [] []) q
   else if isB l p [116, 114, 117, 101] = true then .ok (.mk 0 1 0 [] []) (p + 1)
   else if isB l p [102, 97, 108, 115, 101] = true then .ok (.mk 0 0 0 [] []) (p + 1)
   else if isB l p [109, 105, 110] = true \/ isB l p [109, 97, 120] = true then
    (zcV l (p + 1) [[40]]).bind fun _ q1 => (zfu l f q1 0).bind fun a q2 => (zcV l q2 [[44]]).bind fun _ q3 => (zfu l f q3 0).bind fun b q4 =>
    (zcV l q4 [[41]]).bind fun _ q5 => .ok (.mk (if isB l p [109, 97, 120] = true then 7 else 6) 0 0 [] [a, b]) q5
   else if isB l p [40] = true then (zfu l f (p + 1) 0).bind fun e q1 => (zcV l q1 [[41]]).bind fun _ q2 => .ok e q2
   else if t.kind = 1 /\ zfc t.text = true then .ok (.mk 1 0 0 t.text []) (p + 1)
   else .stop t.pos 12
end
theorem zbA {l : List Tok} (hl : TokOK l) : ∀ (ws : List (List UInt8)) {p q : Nat}, zcV l p ws = .ok () q -> p < l.length -> p <= q /\ q < l.length
 | [], p, q, h, hp => by rw [zcV] at h; cases h; exact ⟨Nat.le_refl _, hp⟩
 | w :: ws, p, q, h, hp => by
  rw [zcV] at h;split at h
  ·rename_i hb;have := zbA hl ws h (zbR hl hb);exact ⟨by omega, this.2⟩
  ·cases h
theorem zsH {l : List Tok} (hl : TokOK l) {p q : Nat} {u : Int} (h : zor l p = .ok u q) (hp : p < l.length) : p <= q /\ q < l.length := by
 unfold zor at h;split at h
 ·rename_i hb; cases h; exact ⟨by omega, zbR hl hb⟩
 ·split at h
  ·rename_i hb; cases h; exact ⟨by omega, zbR hl hb⟩
  ·split at h
   ·rename_i hb;obtain ⟨a, r, h1, h2⟩ := PR.zaP h;cases h2;have := zbA hl _ h1 (zbR hl hb);exact ⟨by omega, this.2⟩
   ·cases h; exact ⟨by omega, hp⟩
theorem zdB {l : List Tok} (hl : TokOK l) : ∀ (f : Nat),
  (∀ p form e q, zfu l f p form = .ok e q -> p < l.length -> p <= q /\ q < l.length) /\
  (∀ form e own p e' q, zgd l f form e own p = .ok e' q -> p < l.length -> p <= q /\ q < l.length) /\
  (∀ p form e q, zcy l f p form = .ok e q -> p < l.length -> p <= q /\ q < l.length) /\
  (∀ p e q, zbG l f p = .ok e q -> p < l.length -> p <= q /\ q < l.length)
 | 0 => ⟨fun _ _ _ _ h => by simp [zfu] at h, fun _ _ _ _ _ _ h => by simp [zgd] at h, fun _ _ _ _ h => by simp [zcy] at h, fun _ _ _ h => by simp [zbG] at h⟩
 | f + 1 => by
  obtain ⟨he, hlo, hpr, hpm⟩ := zdB hl f;refine ⟨fun p form e q h hp => ?_, fun form e own p e' q h hp => ?_, fun p form e q h hp => ?_, fun p e q h hp => ?_⟩
  ·rw [zfu] at h;obtain ⟨a, r, h1, h2⟩ := PR.zaP h;have g1 := hpr _ _ _ _ h1 hp;have g2 := hlo _ _ _ _ _ _ h2 g1.2;exact ⟨by omega, g2.2⟩
  ·rw [zgd] at h;split at h
   ·cases h; exact ⟨by omega, hp⟩
   ·rename_i x hx;have hb := List.find?_some hx;have hp2 := zbR hl hb;split at h
    ·cases h; exact ⟨by omega, hp⟩
    ·obtain ⟨a, r, h1, h2⟩ := PR.zaP h;have g1 := he _ _ _ _ h1 hp2;have g2 := hlo _ _ _ _ _ _ h2 g1.2;exact ⟨by omega, g2.2⟩
  ·rw [zcy] at h;split at h
   ·rename_i hb;have hp2 := zbR hl hb.2;obtain ⟨a, r, h1, h⟩ := PR.zaP h;have g1 := he _ _ _ _ h1 hp2;obtain ⟨_, r2, h2, h⟩ := PR.zaP h;have g2 := zbA hl _ h2 g1.2;obtain ⟨a, r3, h3, h⟩ := PR.zaP h;have g3 := he _ _ _ _ h3 g2.2;obtain ⟨_, r4, h4, h⟩ := PR.zaP h;have g4 := zbA hl _ h4 g3.2;obtain ⟨a, r5, h5, h⟩ := PR.zaP h;have g5 := he _ _ _ _ h5 g4.2;cases h;exact ⟨by omega, g5.2⟩
   ·split at h
    ·rename_i hb;have hp2 := zbR hl hb.2;obtain ⟨a, r, h1, h⟩ := PR.zaP h;have g1 := he _ _ _ _ h1 hp2;cases h;exact ⟨by omega, g1.2⟩
    ·obtain ⟨a, r, h1, h⟩ := PR.zaP h;have g1 := hpm _ _ _ h1 hp;cases h;exact g1
  ·rw [zbG] at h;split at h
   ·cases h
   ·rename_i t ht;split at h
    ·rename_i hk;have hp2 := hl.fin p t ht (by omega);obtain ⟨a, r, h1, h⟩ := PR.zaP h;have g1 := zsH hl h1 hp2;cases h;exact ⟨by omega, g1.2⟩
    split at h
    ·rename_i hb; cases h; exact ⟨by omega, zbR hl hb⟩
    split at h
    ·rename_i hb; cases h; exact ⟨by omega, zbR hl hb⟩
    split at h
    ·rename_i hb;have hp2 : p + 1 < l.length := hb.elim (zbR hl) (zbR hl);obtain ⟨_, r2, h2, h⟩ := PR.zaP h;have g2 := zbA hl _ h2 hp2;obtain ⟨a, r3, h3, h⟩ := PR.zaP h;have g3 := he _ _ _ _ h3 g2.2;obtain ⟨_, r4, h4, h⟩ := PR.zaP h;have g4 := zbA hl _ h4 g3.2;obtain ⟨a, r5, h5, h⟩ := PR.zaP h;have g5 := he _ _ _ _ h5 g4.2;obtain ⟨_, r6, h6, h⟩ := PR.zaP h;have g6 := zbA hl _ h6 g5.2;cases h;exact ⟨by omega, g6.2⟩
    split at h
    ·rename_i hb;have hp2 := zbR hl hb;obtain ⟨a, r3, h3, h⟩ := PR.zaP h;have g3 := he _ _ _ _ h3 hp2;obtain ⟨_, r4, h4, h⟩ := PR.zaP h;have g4 := zbA hl _ h4 g3.2;cases h;exact ⟨by omega, g4.2⟩
    split at h
    ·rename_i hk;cases h;exact ⟨by omega, hl.fin p t ht (by omega)⟩
    ·cases h
end Go.Proofs.YtmlpcgkaonifcaaGreatDoor
namespace Go.Proofs.YtmlpcgkaonifcaaGreatDoor
open Go Go.VL
abbrev W8 := List UInt8
def zo2 : W8 -> Int
 | [] => 0
 | c :: _ => if zdW c = true then 1 else if zb8 c = true then 2 else 3
theorem ztj {w : W8} (h : w ≠ []) : zo2 w ≠ 0 := by
 cases w with
 | nil => exact absurd rfl h
 | cons c w => rw [zo2]; split <;> (try split) <;> decide
def zw8 (w : W8) : Int := if zo2 w = 2 then (zhi w).getD 0 else 0
def Reads (l : List Tok) (p : Nat) (ws : List W8) : Prop := ∀ i w, ws[i]? = some w -> w ≠ [] /\ ∃ t, l[p + i]? = some t /\ t.text = w /\ t.kind = zo2 w /\ t.n = zw8 w
theorem Reads.left {l p} {a b : List W8} (h : Reads l p (a ++ b)) : Reads l p a := fun i w hi => h i w (by rw [List.getElem?_append_left (List.getElem?_eq_some_iff.1 hi).1]; exact hi)
theorem Reads.right {l p} {a b : List W8} (h : Reads l p (a ++ b)) : Reads l (p + a.length) b := fun i w hi => by
 have := h (a.length + i) w (by rw [List.getElem?_append_right (by omega), Nat.add_sub_cancel_left]; exact hi)
 rwa [<- zzA] at this
theorem Reads.head {l p} {w : W8} {b : List W8} (h : Reads l p (w :: b)) : w ≠ [] /\ ∃ t, l[p]? = some t /\ t.text = w /\ t.kind = zo2 w /\ t.n = zw8 w := h 0 w rfl
theorem Reads.tail {l p} {w : W8} {b : List W8} (h : Reads l p (w :: b)) : Reads l (p + 1) b := Reads.right (a := [w]) h
theorem Reads.isB {l p} {w : W8} {b : List W8} (h : Reads l p (w :: b)) (v : W8) : isB l p v = decide (w = v) := by
 obtain ⟨hw, t, ht, h1, h2, h3⟩ := h.head;have := ztj hw;simp [Go.Proofs.YtmlpcgkaonifcaaGreatDoor.isB, ht, h1, h2, this]
theorem Reads.want {l p} {w : W8} {b : List W8} (h : Reads l p (w :: b)) : zcV l p [w] = .ok () (p + 1) := by
 rw [zcV, if_pos (by rw [h.isB]; simp), zcV]
def Ev {α : Type} (g : Nat -> PR α) (r : PR α) : Prop := ∃ f0, ∀ f, f0 <= f -> g f = r
theorem Ev.succ {α : Type} {g : Nat -> PR α} {r : PR α} (h : Ev (fun f => g (f + 1)) r) : Ev g r := by
 obtain ⟨f0, h⟩ := h;refine ⟨f0 + 1, fun f hf => ?_⟩;obtain ⟨f, rfl⟩ : ∃ k, f = k + 1 := ⟨f - 1, by omega⟩;exact h f (by omega)
theorem Ev.const {α : Type} {r : PR α} : Ev (fun _ => r) r := ⟨0, fun _ _ => rfl⟩
theorem Ev.of {α : Type} {g : Nat -> PR α} {r : PR α} (h : ∀ f, g f = r) : Ev g r := ⟨0, fun f _ => h f⟩
theorem Ev.bind {α β : Type} {g : Nat -> PR α} {a : α} {q : Nat} {F : Nat -> α -> Nat -> PR β} {r : PR β} (h : Ev g (.ok a q)) (h2 : Ev (fun f => F f a q) r) : Ev (fun f => (g f).bind (F f)) r := by
 obtain ⟨f0, h⟩ := h;obtain ⟨f1, h2⟩ := h2;refine ⟨max f0 f1, fun f hf => ?_⟩;show (g f).bind (F f) = r;rw [h f (by omega), PR.bind_ok];exact h2 f (by omega)
end Go.Proofs.YtmlpcgkaonifcaaGreatDoor
namespace Go.Proofs.YtmlpcgkaonifcaaGreatDoor
open Go Go.VL
end Go.Proofs.YtmlpcgkaonifcaaGreatDoor
namespace Go.Proofs.YtmlpcgkaonifcaaGreatDoor
open Go Go.VL
end Go.Proofs.YtmlpcgkaonifcaaGreatDoor
namespace Go.Proofs.YtmlpcgkaonifcaaGreatDoor
open Go Go.VL
end Go.Proofs.YtmlpcgkaonifcaaGreatDoor
namespace Go.Proofs.YtmlpcgkaonifcaaGreatDoor
open Go Go.VL
end Go.Proofs.YtmlpcgkaonifcaaGreatDoor
namespace Go.Proofs.YtmlpcgkaonifcaaGreatDoor
open Go Go.VL
end Go.Proofs.YtmlpcgkaonifcaaGreatDoor
namespace Go.Proofs.YtmlpcgkaonifcaaGreatDoor
open Go Go.VL
def zx1 (r : W8) : Prop := ∀ c t, r = c :: t -> zc4 c = true
structure GoodW (w : W8) : Prop where
 next : ∀ r, zx1 r -> zjb (w ++ r) = .ok ⟨zo2 w, w, zw8 w, 0⟩
 ne : w ≠ []
 head : ∀ c t, w = c :: t -> zc4 c = false
def Spaced : List (W8 × W8) -> Prop
 | [] => True
 | [x] => GoodW x.1 /\ ∀ c ∈ x.2, zc4 c = true
 | x :: y :: l => GoodW x.1 /\ (∀ c ∈ x.2, zc4 c = true) /\ x.2 ≠ [] /\ Spaced (y :: l)
theorem Spaced.good {x : W8 × W8} {l : List (W8 × W8)} (h : Spaced (x :: l)) : GoodW x.1 /\ (∀ c ∈ x.2, zc4 c = true) /\ (l ≠ [] -> x.2 ≠ []) /\ Spaced l := by
 cases l with
 | nil => exact ⟨h.1, h.2, fun h => absurd rfl h, trivial⟩
 | cons y l => exact ⟨h.1, h.2.1, fun _ => h.2.2.1, h.2.2.2⟩
end Go.Proofs.YtmlpcgkaonifcaaGreatDoor
namespace Go.Proofs.YtmlpcgkaonifcaaGreatDoor
open Go Go.VL
theorem PR.zdt {α β : Type} {r : PR α} {F G : α -> Nat -> PR β} (h : ∀ a q, r = .ok a q -> F a q = G a q) : r.bind F = r.bind G := by
 cases r with
 | ok a q => exact h a q rfl
 | stop => rfl
theorem zn1 {l : List Tok} (hl : TokOK l) : ∀ (f : Nat),
  (∀ p form, p < l.length -> 4 * (l.length - p) + 3 <= f -> zfu l (f + 1) p form = zfu l f p form) /\
  (∀ p form e own, p < l.length -> 4 * (l.length - p) + 2 <= f -> zgd l (f + 1) form e own p = zgd l f form e own p) /\
  (∀ p form, p < l.length -> 4 * (l.length - p) + 2 <= f -> zcy l (f + 1) p form = zcy l f p form) /\
  (∀ p, p < l.length -> 4 * (l.length - p) + 1 <= f -> zbG l (f + 1) p = zbG l f p)
 | 0 => ⟨fun _ _ _ h => by omega, fun _ _ _ _ _ h => by omega, fun _ _ _ h => by omega, fun _ _ h => by omega⟩
 | f + 1 => by
  obtain ⟨he, hlo, hpr, hpm⟩ := zn1 hl f;obtain ⟨le, llo, lpr, lpm⟩ := zdB hl f;refine ⟨fun p form hp hf => ?_, fun p form e own hp hf => ?_, fun p form hp hf => ?_, fun p hp hf => ?_⟩
  ·simp only [zfu];rw [hpr p form hp (by omega)];refine PR.zdt fun a q hq => ?_;have g := lpr _ _ _ _ hq hp;exact hlo _ _ _ _ g.2 (by omega)
  ·rw [zgd, zgd];split
   ·rfl
   ·rename_i x hx;have hb := List.find?_some hx;have hp2 := zbR hl hb;split
    ·rfl
    ·rw [he (p + 1) _ hp2 (by omega)];refine PR.zdt fun a q hq => ?_;have g := le _ _ _ _ hq hp2;exact hlo _ _ _ _ g.2 (by omega)
  ·simp only [zcy];split
   ·rename_i hb;have hp2 := zbR hl hb.2;rw [he (p + 1) _ hp2 (by omega)];refine PR.zdt fun a q1 hq1 => ?_;have g1 := le _ _ _ _ hq1 hp2;refine PR.zdt fun _ q2 hq2 => ?_;have g2 := zbA hl _ hq2 g1.2;rw [he q2 _ g2.2 (by omega)];refine PR.zdt fun b q3 hq3 => ?_;have g3 := le _ _ _ _ hq3 g2.2;refine PR.zdt fun _ q4 hq4 => ?_;have g4 := zbA hl _ hq4 g3.2;rw [he q4 _ g4.2 (by omega)]
   ·split
    ·rename_i hb;rw [he (p + 1) _ (zbR hl hb.2) (by omega)]
    ·rw [hpm p hp (by omega)]
  ·simp only [zbG];split
   ·rfl
   ·split
    ·rfl
    ·split
     ·rfl
     ·split
      ·rfl
      ·split
       ·rename_i hb;have hp2 : p + 1 < l.length := hb.elim (zbR hl) (zbR hl);refine PR.zdt fun _ q1 hq1 => ?_;have g1 := zbA hl _ hq1 hp2;rw [he q1 _ g1.2 (by omega)];refine PR.zdt fun a q2 hq2 => ?_;have g2 := le _ _ _ _ hq2 g1.2;refine PR.zdt fun _ q3 hq3 => ?_;have g3 := zbA hl _ hq3 g2.2;rw [he q3 _ g3.2 (by omega)]
       ·split
        ·rename_i hb;rw [he (p + 1) _ (zbR hl hb) (by omega)]
        ·rfl
theorem zlQ {l : List Tok} (hl : TokOK l) {p f : Nat} {form : Int} (hp : p < l.length) (hf : 4 * (l.length - p) + 3 <= f) : ∀ g, zfu l (f + g) p form = zfu l f p form
 | 0 => rfl
 | g + 1 => by rw [<- zzA, (zn1 hl (f + g)).1 p form hp (by omega), zlQ hl hp hf g]
theorem Ev.fuel {l : List Tok} (hl : TokOK l) {p f : Nat} {form : Int} {r : PR Exp} (h : Ev (fun f => zfu l f p form) r) (hp : p < l.length) (hf : 4 * (l.length - p) + 3 <= f) : zfu l f p form = r := by
 obtain ⟨f0, h⟩ := h;rw [<- zlQ hl hp hf f0];exact h (f + f0) (by omega)
end Go.Proofs.YtmlpcgkaonifcaaGreatDoor
namespace Go.Proofs.YtmlpcgkaonifcaaGreatDoor
open Go Go.VL
def AllGood (ws : List W8) : Prop := ∀ w ∈ ws, GoodW w
theorem AllGood.nil : AllGood [] := fun _ h => by cases h
theorem AllGood.cons {w : W8} {ws : List W8} (h : GoodW w) (h2 : AllGood ws) : AllGood (w :: ws) := fun x hx => by
 rcases List.mem_cons.1 hx with rfl | hx
 ·exact h
 ·exact h2 x hx
theorem AllGood.app {a b : List W8} (h : AllGood a) (h2 : AllGood b) : AllGood (a ++ b) := fun x hx => by
 rcases List.mem_append.1 hx with hx | hx
 ·exact h x hx
 ·exact h2 x hx
end Go.Proofs.YtmlpcgkaonifcaaGreatDoor
namespace Go.Proofs.YtmlpcgkaonifcaaGreatDoor
open Go Go.VL
end Go.Proofs.YtmlpcgkaonifcaaGreatDoor
namespace Go.Proofs.YtmlpcgkaonifcaaGreatDoor
open Go Go.VL
attribute [local simp] HS zbu zcZ zcp evPure opd uOf zaA St.put St.at getK binD binI binS binB nilD aggD zfv zf5 lookD lookR zcm rangeS Go.VL.nextD Go.VL.nextS zco zge zgb zfp zcv mkV zbf zaS zaR zaQ zcX zaO za8 zbt mapEff zdD ze5 Key.kk shiftI arith unD convD zdq loadD cellsAt fieldAddrD fieldD indexAddrD indexSlD arrAddr indexD sliceD cutD lenD minmaxD nilCheckD buildD fillD zbY zc2 zev setAll zcT zd9 zci zfs zch St.add zaw zbz rowsOf zdf zcx zad zac zaa zbx zc8 zaZ entry zbM zbQ valD zcl zcw zft zdb zdc zb0 zbK zal zaW zbh delAll effD St.effS zcE zaT zaG zcF zaU zaI zbV zaH zaz zbW zcC zbs zbU za5 zbS zbT zar mkD zcj zbD zbI zal zcr D.ids Op.operands Call.operands zbF makeIfD makeFuncD typeAssertD zf4 zdi zdj zfR zcn IntKind.bits zct zay List.take_of_length_le List.range_succ zcN zcc zcO zcI zbB zb1 zb3 zcJ zb5 zbc zb4 zb2 zg4 zcb zcL zaX zaK zcM zaY zaM zca zaL zaD zcR zcS zgB zab frzN frz1 zav zau St.frz St.frzS frzS fv za2 zbn zbo frzObS zat zan frz zbL zbk zbl zbN zb7 zce za6 St.norm St.lp St.only zax wkE wkO wkU Ob.under D.under zaj zak zcP zcd zcQ h4s zd1 zaC zbC List.zipIdx_cons List.zipIdx_nil zzC zzD Nat.zero_add
attribute [local irreducible] V G H HD HD2 HD4 zg6 RetX zbg Eff CallP CallV EndOK Fun Ret FinOK LoopI LoopW EndW HR vs2 RN Cnd H4
theorem zha (N : Nat) (t : Tab) (c : Nat) (a b : Int) (d : Bool) : (∀ x ∈ (t.map fun x => [D.u (.int .i64 x.1), D.u (.int .i64 x.2.1), D.u (.bool x.2.2)]).set c [D.u (.int .i64 a), D.u (.int .i64 b), D.u (.bool d)], ∀ y ∈ x, D.under N y = true) ↔ True := by
 refine ⟨fun _ => trivial, fun _ => ?_⟩;have h : ((t.map fun x => [D.u (.int .i64 x.1), D.u (.int .i64 x.2.1), D.u (.bool x.2.2)]).set c [D.u (.int .i64 a), D.u (.int .i64 b), D.u (.bool d)]) = (t.set c (a, b, d)).map fun x => [D.u (.int .i64 x.1), D.u (.int .i64 x.2.1), D.u (.bool x.2.2)] := by rw [List.map_set]
 rw [h];intro x hx;obtain ⟨q, _, rfl⟩ := List.mem_map.1 hx;intro y hy;simp at hy;rcases hy with rfl | rfl | rfl <;> simp [D.under]
theorem zqM {lets : List Let} {g : List UInt8 -> Option Int} {s : List UInt8} {v : Int} (h : g s = some v) : ∀ n, nmT lets g n s = TM.ret (.ok v)
 | 0 => by rw [nmT, h]
 | n + 1 => by rw [nmT, h]
theorem zw9 {lets : List Let} {g : List UInt8 -> Option Int} {s : List UInt8} (h : g s = none) : nmT lets g 0 s = TM.ret (.error 13) := by rw [nmT, h]
theorem zqK {lets : List Let} {g : List UInt8 -> Option Int} {s : List UInt8} {c : Nat} {l : Let} (h : g s = none) (hl : lets[c]? = some l) (hs : ¬ l.name = s) : nmT lets g (c + 1) s = nmT lets g c s := by
 rw [nmT, h, hl];simp only;rw [if_neg hs]
theorem zsY {lets : List Let} {g : List UInt8 -> Option Int} {s : List UInt8} {c : Nat} {l : Let} {t : Tab} {v e : Int} (h : g s = none) (hl : lets[c]? = some l) (hs : l.name = s) (ht : t[c]? = some (v, e, true)) :
  nmT lets g (c + 1) s t = (zmq v e, t) := by
 rw [nmT, h, hl];simp only;rw [if_pos hs];simp only [ht]
theorem zu3 {lets : List Let} {g : List UInt8 -> Option Int} {s : List UInt8} {c : Nat} {l : Let} {t : Tab} {v e : Int} (h : g s = none) (hl : lets[c]? = some l) (hs : l.name = s) (ht : t[c]? = some (v, e, false)) :
  nmT lets g (c + 1) s t = (zmq (zjX (valL lets g c l.body t).1).1 (zjX (valL lets g c l.body t).1).2.1, (valL lets g c l.body t).2.set c (zjX (valL lets g c l.body t).1)) := by
 rw [nmT, h, hl];simp only;rw [if_pos hs];simp only [ht];rfl
theorem zs2 {lets : List Let} {r : Nat} {g : GM} {m n : Nat} (hgs : ∀ s v, gF g s = some v -> inC v) (hrb : ∀ l ∈ lets, zbi 12 l.body = true) (hT : ∀ i l, i < n -> lets[i]? = some l -> zwQ lets r g m i l.body) (s : List UInt8) (hnl : n <= lets.length) (hl : lets.length <= 20) (hmr : m ≠ r) (t : Tab) (nx : Nat) (hm : m < nx) (hr : r < nx) (htab : TabOK lets.length t) :
  RetX Tryz.prog 124 [.ptr m 0, .u (.str s), .u (.int .i64 n)] [(m, mOb lets r g), (r, tOb t)] nx
   (fun o obs n' => o = zdl (nmT lets (gF g) n s t).1 /\ obs = [(m, mOb lets r g), (r, tOb (nmT lets (gF g) n s t).2)] /\ n' = nx) := by
 have hne := nef hm;have hne2 := nef hr;have hlen := htab.len;have hg := znT g s;rcases hga : asc g s with _ | v
 ·have hgz : gF g s = none := hga;rw [hga] at hg;simp only [Option.map_none] at hg;generalize hR : nmT lets (gF g) n s = R;refine RetX.runW Tryz.func124 Tryz.ntmps124 rfl (by simp) fun Γ hn hpan => ?_
  repeat' (first
  | (refine zaf rfl ?_; simp [hne, hne2, hmr, Ne.symm hmr, hg])
  | (refine And.intro (by omega) ?_)
  | fail)
  refine zbZ (α := { c : Nat // c <= n /\ R = nmT lets (gF g) c s }) [0, 1] (fun c => [(9, .u (.int .i64 ((c.1 : Int) - 1)))]) (fun c => [(m, mOb lets r g), (r, tOb t)]) nx (fun c => c.1) ⟨n, by omega, hR.symm⟩ ?_ ?_
  ·exact (Wk.zdz (by simp [hn, hm, hr, hne, hne2, hmr, Ne.symm hmr, zaq] <;> grind))
  rintro ⟨c, hc1, hc2⟩;simp;rcases c with _ | c
  ·rw [zw9 hgz] at hc2;rw [hc2] at hpan
   repeat' (first
  | (refine zaf rfl ?_; simp [hne, hne2, hmr, Ne.symm hmr])
  | fail)
   (refine hpan _ _ (PanG.k ([(m, mOb lets r g), (r, tOb t)]) (nx) (by simp [hn, hm, hr, hne, hne2, hmr, Ne.symm hmr, zaq] <;> omega) ?_); try simp)
   all_goals simp [TM.ret, zdl, chF]
  ·obtain ⟨l, hx⟩ : ∃ l, lets[c]? = some l := ⟨_, List.getElem?_eq_getElem (by omega)⟩;obtain ⟨⟨v0, e0, d0⟩, hy⟩ : ∃ q, t[c]? = some q := ⟨_, List.getElem?_eq_getElem (by omega)⟩;by_cases hs : l.name = s
   ·cases d0
    ·have hc3 := congrFun hc2 t;rw [zu3 hgz hx hs hy] at hc3;have hTT := fun nx' (h : nx <= nx') => hT c l (by omega) hx t nx' (by omega) (by omega) htab;obtain ⟨k1, k2, k3⟩ := zmy hrb hgs c 12 l.body (hrb l (List.mem_of_getElem? hx)) t htab;generalize valL lets (gF g) c l.body t = w at *;obtain ⟨res, t1⟩ := w;have hlen1 := k1.len;simp only at hlen1 k2 k3 hc3 hTT;unfold zdo at hTT;obtain ⟨⟨v1, e1, d1⟩, hz⟩ : ∃ q, t1[c]? = some q := ⟨_, List.getElem?_eq_getElem (by omega)⟩;have hst : ∀ x : List D, ((t1.map fun x => [D.u (.int .i64 x.1), D.u (.int .i64 x.2.1), D.u (.bool x.2.2)]).set c x)[c]? = some x := fun x => List.getElem?_set_self (by simp; omega);have hcl : t1.length = lets.length := hlen1;rcases res with er | v
     ·have her := k3 er rfl;simp only [zjX, zmq, if_neg her] at hc3 hTT;rw [hc3] at hpan
      repeat' (first
  | (refine zaf rfl ?_; simp [hne, hne2, hmr, Ne.symm hmr, hx, hy, hz, hs, her, zaV, hst, List.set_set])
  | (refine And.intro (by omega) ?_)
  | (refine And.intro ?_ (by omega))
  | (refine CallP.okL (hTT _ (by first | omega | (simp <;> omega) | fail)) (by first | (simp [hne, hne2, hmr, Ne.symm hmr, hx, hy, hz, hs, her, zaV, hst, List.set_set, zaa, getK, zab, zac, zad, zar, del]; done) | fail) (by rfl) (by first | assumption | (simp; done) | fail) (by rfl) (by simp) ?_; (try simp [hne, hne2, hmr, Ne.symm hmr, hx, hy, hz, hs, her, zaV, hst, List.set_set, zc0, del]))
  | fail)
      (refine hpan _ _ (PanG.k ([(m, mOb lets r g), (r, tOb (t1.set c (0, er, true)))]) (nx) (by simp [hn, hm, hr, hne, hne2, hmr, Ne.symm hmr, zaq, zha, zaV, List.map_set] <;> omega) ?_); try simp)
      all_goals first | rfl | simp [zmq, zdl, her, chF]
     ·simp only [zjX, zmq, if_true] at hc3 hTT;rw [hc3]
      repeat' (first
  | (refine zaf rfl ?_; simp [hne, hne2, hmr, Ne.symm hmr, hx, hy, hz, hs, zaV, hst, List.set_set])
  | (refine And.intro (by omega) ?_)
  | (refine And.intro ?_ (by omega))
  | (refine CallP.okL (hTT _ (by first | omega | (simp <;> omega) | fail)) (by first | (simp [hne, hne2, hmr, Ne.symm hmr, hx, hy, hz, hs, zaV, hst, List.set_set, zaa, getK, zab, zac, zad, zar, del]; done) | fail) (by rfl) (by first | assumption | (simp; done) | fail) (by rfl) (by simp) ?_; (try simp [hne, hne2, hmr, Ne.symm hmr, hx, hy, hz, hs, zaV, hst, List.set_set, zc0, del]))
  | fail)
      (refine EndW.z ([(m, mOb lets r g), (r, tOb (t1.set c (v, 0, true)))]) (N := nx) Tryz.results124 (by simp [hm, hr, hne, hne2, hmr, Ne.symm hmr, zaq, zha, zaV, List.map_set] <;> omega) ?_; simp [hm, hr, hne, hne2, hmr, Ne.symm hmr, zaq, zha, zaV, List.map_set])
      all_goals first | rfl | simp [zmq, zdl]
    ·have hc3 := congrFun hc2 t;rw [zsY hgz hx hs hy] at hc3;rw [hc3] at hpan ⊢;by_cases he : e0 = 0
     ·repeat' (first
  | (refine zaf rfl ?_; simp [hne, hne2, hmr, Ne.symm hmr, hx, hy, hs, he, zaV])
  | (refine And.intro (by omega) ?_)
  | (refine And.intro ?_ (by omega))
  | fail)
      (refine EndW.z ([(m, mOb lets r g), (r, tOb t)]) (N := nx) Tryz.results124 (by simp [hm, hr, hne, hne2, hmr, Ne.symm hmr, zaq, zaV] <;> omega) ?_; simp [hm, hr, hne, hne2, hmr, Ne.symm hmr, zaq, zaV])
      all_goals first | rfl | simp [zmq, zdl, he]
     ·repeat' (first
  | (refine zaf rfl ?_; simp [hne, hne2, hmr, Ne.symm hmr, hx, hy, hs, he, zaV])
  | (refine And.intro (by omega) ?_)
  | (refine And.intro ?_ (by omega))
  | fail)
      (refine hpan _ _ (PanG.k ([(m, mOb lets r g), (r, tOb t)]) (nx) (by simp [hn, hm, hr, hne, hne2, hmr, Ne.symm hmr, zaq, zaV] <;> omega) ?_); try simp)
      all_goals first | rfl | simp [zmq, zdl, he, chF]
   ·rw [zqK hgz hx hs] at hc2
    repeat' (first
  | (refine zaf rfl ?_; simp [hne, hne2, hmr, Ne.symm hmr, hx, hs, zaV])
  | (refine And.intro (by omega) ?_)
  | fail)
    refine LoopW.next ⟨c, by omega, hc2⟩ (by simp) ?_
    exact (Wk.zdz (by simp [hn, hm, hr, hne, hne2, hmr, Ne.symm hmr, zaq, zaV] <;> grind))
 ·rw [hga] at hg;simp only [Option.map_some] at hg;rw [zqM (by exact hga) n];simp only [TM.ret, zdl];refine RetX.runW Tryz.func124 Tryz.ntmps124 rfl (by simp) fun Γ hn hpan => ?_
  repeat' (first
  | (refine zaf rfl ?_; simp [hne, hne2, hmr, Ne.symm hmr, hg])
  | fail)
  (refine EndW.z ([(m, mOb lets r g), (r, tOb t)]) (N := nx) Tryz.results124 (by simp [hm, hr, hne, hne2, hmr, Ne.symm hmr, zaq] <;> omega) ?_; simp [hm, hr, hne, hne2, hmr, Ne.symm hmr, zaq])
theorem zsJ (i j nx : Nat) (hi : i < nx) (hj : j < nx) (hij : i ≠ j) (v e : Int) :
  RetDf Tryz.prog 97 [.ptr i 0, .ptr j 0] [(i, .box [.u (.int .i64 v)]), (j, .box [.u (.int .i64 e)])] nx .returning
   (fun u o n => settle u = .returning /\ n = nx /\ o = [(i, .box [.u (.int .i64 v)]), (j, .box [.u (.int .i64 e)])]) := by
 have hne := nef hi;have hne2 := nef hj;refine RetDf.of_body Tryz.func97 rfl (by simp) (by simp) rfl fun Γ hn => ?_;simp [entry, zmI, Tryz.ntmps97]
 repeat' (first
  | (refine zaf rfl ?_; simp [hne, hne2, hij, Ne.symm hij])
  | fail)
 (refine ⟨by simp, { n := _, env := [], obs := [(i, .box [.u (.int .i64 v)]), (j, .box [.u (.int .i64 e)])], next := nx }, (Wk.cut rfl (by simp [hn]) (by simp [wkO, zaa, getK, zab, zac, Ob.under, D.under, zaj, zak, hi, hj, hne, hne2, hij, Ne.symm hij]) (by simp [wkU, zax, zaa, getK, D.under, hi, hj, hne, hne2, hij, Ne.symm hij]) (by simp [wkE, zax, zaa, getK, hi, hj, hne, hne2, hij, Ne.symm hij])), by simp [hn], ?_⟩; try simp)
 all_goals rfl
theorem zsK (i j nx : Nat) (hi : i < nx) (hj : j < nx) (hij : i ≠ j) (v e err : Int) :
  RetDf Tryz.prog 97 [.ptr i 0, .ptr j 0] [(i, .box [.u (.int .i64 v)]), (j, .box [.u (.int .i64 e)])] nx (.panicking (chF err))
   (fun u o n => settle u = .returning /\ n = nx /\ o = [(i, .box [.u (.int .i64 0)]), (j, .box [.u (.int .i64 err)])]) := by
 have hne := nef hi;have hne2 := nef hj;refine RetDf.of_body Tryz.func97 rfl (by simp) (by simp) rfl fun Γ hn => ?_;simp [entry, zmI, chF, Tryz.ntmps97]
 repeat' (first
  | (refine zaf rfl ?_; simp [hne, hne2, hij, Ne.symm hij])
  | (refine ⟨hC _ (zb6 [i, j] nx (by simp <;> omega) (by simp <;> omega) (by apply Exists.intro; apply And.intro; (focus (repeat' (first | exact KF.nil | exact KL.nil | apply KF.cons | apply KL.cons 0 rfl | apply KL.cons 1 rfl | apply KL.cons 2 rfl | apply KL.cons 3 rfl | apply KL.cons 4 rfl | apply KL.cons 5 rfl | apply KL.cons 6 rfl | apply KL.cons 7 rfl | apply KL.cons 8 rfl | apply KL.cons 9 rfl))); kernel_rfl)), hk _ (zdG 8 _ _ _ ?_)⟩; clear hC hk C k; simp [hne, hne2, hij, Ne.symm hij])
  | (refine zdv rfl (by kernel_rfl) (by first | (simp [hn] <;> omega) | fail) fun C k hC hk => ?_; simp [hne, hne2, hij, Ne.symm hij])
  | fail)
 (refine ⟨by simp, { n := _, env := [], obs := [(i, .box [.u (.int .i64 0)]), (j, .box [.u (.int .i64 err)])], next := nx }, (Wk.cut rfl (by simp [hn]) (by simp [wkO, zaa, getK, zab, zac, Ob.under, D.under, zaj, zak, hi, hj, hne, hne2, hij, Ne.symm hij]) (by simp [wkU, zax, zaa, getK, D.under, hi, hj, hne, hne2, hij, Ne.symm hij]) (by simp [wkE, zax, zaa, getK, hi, hj, hne, hne2, hij, Ne.symm hij])), by simp [hn], ?_⟩; try simp)
 all_goals rfl
theorem zqa {lets : List Let} {r : Nat} {g : GM} {m n : Nat} {e : Exp} (hV : zet lets r g m n e) (hmr : m ≠ r) : zwQ lets r g m n e := by
 intro t nx hm hr ht;have hne := nef hm;have hne2 := nef hr;have hv := fun nx' (h : nx <= nx') => hV t nx' (by omega) (by omega) ht;unfold zdo at hv ⊢;rcases hvl : valL lets (gF g) n e t with ⟨er | v, t1⟩
 ·simp only [hvl, zdl, zjX] at hv ⊢
  (refine RetX.zga Tryz.func71 rfl (by simp) fun Γ hn hdfr hpan hesc => ?_); simp only [zzE, zzC, zzD, Tryz.ntmps71]
  rw [zfY]
  repeat' (first
  | (refine zgj rfl ?_; simp [hne, hne2, hmr, Ne.symm hmr, zzA, del])
  | fail)
  refine zkO hesc hdfr rfl (by simp) ?_;have hn0 := hn;have hpan0 := hpan;intro Γ' hn hpan;simp
  repeat' (first
  | (refine zgj rfl ?_; simp [hne, hne2, hmr, Ne.symm hmr, zzA, del])
  | (refine CallP.zkQ (hv _ (by first | omega | (simp <;> omega) | fail)) (by first | (simp [hne, hne2, hmr, Ne.symm hmr, zzA, del, zaa, getK, zab, zac, zad, zar, del]; done) | fail) (by rfl) (by first | assumption | (simp; done) | fail) (by rfl) (by simp) ?_; refine ⟨_, Wk.refl _, ?_⟩; (try simp [hne, hne2, hmr, Ne.symm hmr, zzA, del, zc0, del]))
  | fail)
  refine hpan _ _ ?_;refine LeaveD.of [(nx + 1, .box [.u (.int .i64 0)]), (nx + 2, .box [.u (.int .i64 0)])] (by simp [hne, hne2, zaa, getK, zab, zac]) (zsK (nx + 1) (nx + 2) _ (by simp) (by simp) (by simp) 0 0 _) ?_;simp only [show Γ.base.n0 = nx from hn0];simp [zc0, del, hne, hne2, hmr, Ne.symm hmr]
  (refine EndW.z ([(m, mOb lets r g), (r, tOb t1)]) (N := nx) Tryz.results71 (by simp [hm, hr, hne, hne2, hmr, Ne.symm hmr, zaq, zaV, Ctx.base, hn0] <;> omega) ?_; simp [hm, hr, hne, hne2, hmr, Ne.symm hmr, zaq, zaV, Ctx.base, hn0])
 ·simp only [hvl, zdl, zjX] at hv ⊢
  (refine RetX.zga Tryz.func71 rfl (by simp) fun Γ hn hdfr hpan hesc => ?_); simp only [zzE, zzC, zzD, Tryz.ntmps71]
  rw [zfY]
  repeat' (first
  | (refine zgj rfl ?_; simp [hne, hne2, hmr, Ne.symm hmr, zzA, del])
  | fail)
  refine zkO hesc hdfr rfl (by simp) ?_;have hn0 := hn;have hpan0 := hpan;intro Γ' hn hpan;simp
  repeat' (first
  | (refine zgj rfl ?_; simp [hne, hne2, hmr, Ne.symm hmr, zzA, del])
  | (refine CallP.okL (hv _ (by first | omega | (simp <;> omega) | fail)) (by first | (simp [hne, hne2, hmr, Ne.symm hmr, zzA, del, zaa, getK, zab, zac, zad, zar, del]; done) | fail) (by rfl) (by first | assumption | (simp; done) | fail) (by rfl) (by simp) ?_; (try simp [hne, hne2, hmr, Ne.symm hmr, zzA, del, zc0, del]))
  | fail)
  refine ⟨rfl, ?_⟩;refine LeaveD.of [(nx + 1, .box [.u (.int .i64 v)]), (nx + 2, .box [.u (.int .i64 0)])] (by simp [hne, hne2, zaa, getK, zab, zac]) (zsJ (nx + 1) (nx + 2) _ (by simp) (by simp) (by simp) v 0) ?_;simp only [show Γ.base.n0 = nx from hn0];simp [zc0, del, hne, hne2, hmr, Ne.symm hmr]
  (refine EndW.z ([(m, mOb lets r g), (r, tOb t1)]) (N := nx) Tryz.results71 (by simp [hm, hr, hne, hne2, hmr, Ne.symm hmr, zaq, zaV, Ctx.base, hn0] <;> omega) ?_; simp [hm, hr, hne, hne2, hmr, Ne.symm hmr, zaq, zaV, Ctx.base, hn0])
abbrev ziN (e : Exp) : D := .u (.agg e.row)
abbrev zkv (n : Int) : D := .u (.int .i64 n)
theorem zbm {i nx : Nat} (h : i < nx) : ¬ i = nx /\ ¬ nx = i /\ (∀ k, ¬ i = nx + k) /\ ∀ k, ¬ nx + k = i := ⟨by omega, by omega, fun k => by omega, fun k => by omega⟩
theorem zsG (l : List Tok) (p : Nat) (i nx : Nat) (hi : i < nx) (hp : p < l.length) (hl : TokOK l) :
  RetX Tryz.prog 148 [.ptr i 0] [(i, pOb l p)] nx (PPost l i nx zkv (zor l p)) := by
 have hne := zbm hi;have hh1 := fun nx' (h : nx <= nx') => zb9 l p [99, 111, 105, 110, 115] i nx' (by omega) hp hl.len;have hh2 := fun nx' (h : nx <= nx') => zb9 l p [100, 97, 121, 115] i nx' (by omega) hp hl.len;have hh3 := fun nx' (h : nx <= nx') => zb9 l p [112, 101, 114] i nx' (by omega) hp hl.len;unfold zor;by_cases h1 : isB l p [99, 111, 105, 110, 115] = true
 ·simp only [h1, if_true] at hh1 ⊢;refine RetX.runW Tryz.func148 Tryz.ntmps148 rfl (by simp) fun Γ hn hpan => ?_
  repeat' (first
  | (refine zaf rfl ?_; simp [hne])
  | (refine CallP.ok1 (hh1 _ (by first | omega | (simp <;> omega) | fail)) (by first | (simp [hne, zaa, getK, zab, zac]; done) | fail) (by rfl) (by first | assumption | (simp; done) | fail) (by rfl) (by simp) ?_; (try simp [hne]))
  | fail)
  (refine EndW.h Tryz.results148 ?_; simp)
  exact PPost.zdw rfl rfl (by first | rfl | simp [del])
 ·simp only [h1, Bool.false_eq_true, if_false] at hh1 ⊢;by_cases h2 : isB l p [100, 97, 121, 115] = true
  ·simp only [h2, if_true] at hh2 ⊢;refine RetX.runW Tryz.func148 Tryz.ntmps148 rfl (by simp) fun Γ hn hpan => ?_
   repeat' (first
  | (refine zaf rfl ?_; simp [hne])
  | (refine CallP.ok1 (hh1 _ (by first | omega | (simp <;> omega) | fail)) (by first | (simp [hne, zaa, getK, zab, zac]; done) | fail) (by rfl) (by first | assumption | (simp; done) | fail) (by rfl) (by simp) ?_; (try simp [hne]))
  | (refine CallP.ok1 (hh2 _ (by first | omega | (simp <;> omega) | fail)) (by first | (simp [hne, zaa, getK, zab, zac]; done) | fail) (by rfl) (by first | assumption | (simp; done) | fail) (by rfl) (by simp) ?_; (try simp [hne]))
  | fail)
   (refine EndW.h Tryz.results148 ?_; simp)
   exact PPost.zdw rfl rfl (by first | rfl | simp [del])
  ·simp only [h2, Bool.false_eq_true, if_false] at hh2 ⊢;by_cases h3 : isB l p [112, 101, 114] = true
   ·simp only [h3, if_true] at hh3 ⊢;have hw := fun nx' (h : nx <= nx') => zj8 l (p + 1) [[109, 105, 108, 108, 101]] i nx' (by omega) (zbR hl h3) hl (by simp);cases hr : zcV l (p + 1) [[109, 105, 108, 108, 101]] with
    | ok a q =>
     simp only [hr, zzC, zzD] at hw;refine RetX.runW Tryz.func148 Tryz.ntmps148 rfl (by simp) fun Γ hn hpan => ?_
     repeat' (first
  | (refine zaf rfl ?_; simp [hne])
  | (refine CallP.ok1 (hh1 _ (by first | omega | (simp <;> omega) | fail)) (by first | (simp [hne, zaa, getK, zab, zac]; done) | fail) (by rfl) (by first | assumption | (simp; done) | fail) (by rfl) (by simp) ?_; (try simp [hne]))
  | (refine CallP.ok1 (hh2 _ (by first | omega | (simp <;> omega) | fail)) (by first | (simp [hne, zaa, getK, zab, zac]; done) | fail) (by rfl) (by first | assumption | (simp; done) | fail) (by rfl) (by simp) ?_; (try simp [hne]))
  | (refine CallP.ok1 (hh3 _ (by first | omega | (simp <;> omega) | fail)) (by first | (simp [hne, zaa, getK, zab, zac]; done) | fail) (by rfl) (by first | assumption | (simp; done) | fail) (by rfl) (by simp) ?_; (try simp [hne]))
  | (refine CallP.ok1 (hw _ (by first | omega | (simp <;> omega) | fail)) (by first | (simp [hne, zaa, getK, zab, zac]; done) | fail) (by rfl) (by first | assumption | (simp; done) | fail) (by rfl) (by simp) ?_; (try simp [hne]))
  | (refine zbr (by first | rfl | fail) (by first | simp [hne, frzN, frz1, zav, zau, St.frz, St.frzS, frzS, fv, za2, zbn, zbo, frzObS, zat, zan, del, frz, zbL] <;> rfl | fail) ?_)
  | fail)
     (refine EndW.wk { n := _, env := [(2, zkv 4)], obs := [(i, pOb l q)], next := nx } (Wk.cut rfl (by simp [hn]) (by simp [wkO, zaa, getK, zab, zac, Ob.under, D.under, zaj, zak, hne, hi]) (by simp [wkU, zax, zaa, getK, D.under, hne, hi]) (by simp [wkE, zax, zaa, getK, hne, hi])) (EndW.here ?_); (first | (refine EndOK.fin (.inr rfl) ?_) | (refine EndOK.fin (.inl rfl) ?_)); simp [zd1, zaC, Tryz.results148]; refine FinOK.here (by simp) ?_; try simp)
     exact PPost.zdw rfl rfl (by first | rfl | simp [del])
    | stop pos e =>
     simp only [hr, zzC, zzD] at hw;refine RetX.runW Tryz.func148 Tryz.ntmps148 rfl (by simp) fun Γ hn hpan => ?_
     repeat' (first
  | (refine zaf rfl ?_; simp [hne])
  | (refine CallP.ok1 (hh1 _ (by first | omega | (simp <;> omega) | fail)) (by first | (simp [hne, zaa, getK, zab, zac]; done) | fail) (by rfl) (by first | assumption | (simp; done) | fail) (by rfl) (by simp) ?_; (try simp [hne]))
  | (refine CallP.ok1 (hh2 _ (by first | omega | (simp <;> omega) | fail)) (by first | (simp [hne, zaa, getK, zab, zac]; done) | fail) (by rfl) (by first | assumption | (simp; done) | fail) (by rfl) (by simp) ?_; (try simp [hne]))
  | (refine CallP.ok1 (hh3 _ (by first | omega | (simp <;> omega) | fail)) (by first | (simp [hne, zaa, getK, zab, zac]; done) | fail) (by rfl) (by first | assumption | (simp; done) | fail) (by rfl) (by simp) ?_; (try simp [hne]))
  | (refine CallP.zgg (hw _ (by first | omega | (simp <;> omega) | fail)) (by first | (simp [hne, zaa, getK, zab, zac]; done) | fail) (by rfl) (by first | assumption | (simp; done) | fail) (by rfl) (by simp) ?_; rintro ob' ⟨q', rfl⟩; refine ⟨_, Wk.refl _, ?_⟩)
  | (refine zbr (by first | rfl | fail) (by first | simp [hne, frzN, frz1, zav, zau, St.frz, St.frzS, frzS, fv, za2, zbn, zbo, frzObS, zat, zan, del, frz, zbL] <;> rfl | fail) ?_)
  | fail)
     (refine hpan _ _ (PanG.k ([(i, pOb l q')]) (nx) (by simp [hn, hi, zab, zac, zaa, getK] <;> omega) ?_); try simp)
     exact PPost.zbe rfl
   ·simp only [h3, Bool.false_eq_true, if_false] at hh3 ⊢;refine RetX.runW Tryz.func148 Tryz.ntmps148 rfl (by simp) fun Γ hn hpan => ?_
    repeat' (first
  | (refine zaf rfl ?_; simp [hne])
  | (refine CallP.ok1 (hh1 _ (by first | omega | (simp <;> omega) | fail)) (by first | (simp [hne, zaa, getK, zab, zac]; done) | fail) (by rfl) (by first | assumption | (simp; done) | fail) (by rfl) (by simp) ?_; (try simp [hne]))
  | (refine CallP.ok1 (hh2 _ (by first | omega | (simp <;> omega) | fail)) (by first | (simp [hne, zaa, getK, zab, zac]; done) | fail) (by rfl) (by first | assumption | (simp; done) | fail) (by rfl) (by simp) ?_; (try simp [hne]))
  | (refine CallP.ok1 (hh3 _ (by first | omega | (simp <;> omega) | fail)) (by first | (simp [hne, zaa, getK, zab, zac]; done) | fail) (by rfl) (by first | assumption | (simp; done) | fail) (by rfl) (by simp) ?_; (try simp [hne]))
  | fail)
    (refine EndW.h Tryz.results148 ?_; simp)
    exact PPost.zdw rfl rfl (by first | rfl | simp [del])
abbrev zls (e : Exp × Int) : D := .tup [.u (.agg e.1.row), .u (.int .i64 e.2)]
def zhS (l : List Tok) (f : Nat) : Prop := ∀ (p : Nat) (form : Int) (i nx : Nat), i < nx -> p < l.length -> 4 * (l.length - p) + 3 <= f -> 0 <= form -> form <= 7 ->
 RetX Tryz.prog 119 [.ptr i 0, zkv form] [(i, pOb l p)] nx (PPost l i nx ziN (zfu l f p form))
def zvX (l : List Tok) (f : Nat) : Prop := ∀ (p : Nat) (form : Int) (i nx : Nat), i < nx -> p < l.length -> 4 * (l.length - p) + 2 <= f -> 0 <= form -> form <= 7 ->
 RetX Tryz.prog 136 [.ptr i 0, zkv form] [(i, pOb l p)] nx (PPost l i nx zls (zcy l f p form))
def zj5 (l : List Tok) (f : Nat) : Prop := ∀ (p : Nat) (i nx : Nat), i < nx -> p < l.length -> 4 * (l.length - p) + 1 <= f ->
 RetX Tryz.prog 145 [.ptr i 0] [(i, pOb l p)] nx (PPost l i nx ziN (zbG l f p))
theorem zgl {l : List Tok} (hl : TokOK l) (w : List UInt8) {q i nx : Nat} (hi : i < nx) (hq : q < l.length) :
  RetX Tryz.prog 91 [.ptr i 0, .u (.sl [[.str w]])] [(i, pOb l q)] nx (PPost l i nx (fun _ => .tup []) (zcV l q [w])) := zj8 l q [w] i nx hi hq hl (by simp)
theorem zmK {l : List Tok} (hl : TokOK l) {f p : Nat} {t : Tok} (ht : l[p]? = some t) (hk : t.kind = 2) {i nx : Nat} (hi : i < nx) :
  RetX Tryz.prog 145 [.ptr i 0] [(i, pOb l p)] nx (PPost l i nx ziN (zbG l (f + 1) p)) := by
 have hne := zbm hi;have hp := (List.getElem?_eq_some_iff.1 ht).1;have hnx := zdk l p t ht hl.len;have hp2 := hl.fin p t ht (by omega);have hll := hl.len;rw [zbG, ht];simp only [hk, if_true] at hnx ⊢;have hu := fun nx' (h : nx <= nx') => zsG l (p + 1) i nx' (by omega) hp2 hl;cases hr : zor l (p + 1) with
 | ok a q =>
  simp only [hr] at hu;refine RetX.runW Tryz.func145 Tryz.ntmps145 rfl (by simp) fun Γ hn hpan => ?_
  repeat' (first
  | (refine zi3 (fun nx' h' => hu nx' (by simp at h'; omega)) (by first | (simp [hne, zaa, getK, zab, zac, zad, zar]; done) | fail) (by rfl) (by first | assumption | simp) (by rfl) (by simp [D.under, Ob.under]) (by simp) ?_; (try simp [hne]))
  | (refine zaf rfl ?_; simp [hne])
  | (refine And.intro (by omega) ?_)
  | (refine ⟨hC _ (zb6 [i] nx (by simp <;> omega) (by simp <;> omega) (by apply Exists.intro; apply And.intro; (focus (repeat' (first | exact KF.nil | exact KL.nil | apply KF.cons | apply KL.cons 0 rfl | apply KL.cons 1 rfl | apply KL.cons 2 rfl | apply KL.cons 3 rfl | apply KL.cons 4 rfl | apply KL.cons 5 rfl | apply KL.cons 6 rfl | apply KL.cons 7 rfl | apply KL.cons 8 rfl | apply KL.cons 9 rfl))); kernel_rfl)), hk _ (zdG 8 _ _ _ ?_)⟩; clear hC hk C k; simp [hne])
  | (refine zdv rfl (by kernel_rfl) (by first | (simp [hn] <;> omega) | fail) fun C k hC hk => ?_; simp [hne])
  | (refine zcB rfl ?_; simp [hne])
  | (refine CallP.f2 rfl (hnx) (by first | simp [hne] <;> rfl | fail) ?_; simp [hne])
  | fail)
  refine EndW.norm ?_;simp [St.norm, za6, zbN, zb7, zce, hne]
  (refine EndW.z ([(i, pOb l q)]) (N := nx) Tryz.results145 (by simp [hne, hi] <;> omega) ?_; simp [hne, hi])
  exact PPost.zdw rfl (by simp [Exp.row]) rfl
 | stop pos e =>
  simp only [hr] at hu;refine RetX.runW Tryz.func145 Tryz.ntmps145 rfl (by simp) fun Γ hn hpan => ?_
  repeat' (first
  | (refine zg7 (fun nx' h' => hu nx' (by simp at h'; omega)) (by first | (simp [hne, zaa, getK, zab, zac, zad, zar]; done) | fail) (by rfl) (by first | assumption | simp) (by rfl) (by simp) ?_ ?_; rintro env' ob' n' hn' ⟨q', rfl⟩; refine ⟨_, Wk.refl _, ?_⟩)
  | (refine zfQ rfl (by simp) ?_; simp)
  | (refine zaf rfl ?_; simp [hne])
  | (refine And.intro (by omega) ?_)
  | (refine zee (hC _ (zb6 [i] nx (by simp <;> omega) (by simp <;> omega) (by apply Exists.intro; apply And.intro; (focus (repeat' (first | exact KF.nil | exact KL.nil | apply KF.cons | apply KL.cons 0 rfl | apply KL.cons 1 rfl | apply KL.cons 2 rfl | apply KL.cons 3 rfl | apply KL.cons 4 rfl | apply KL.cons 5 rfl | apply KL.cons 6 rfl | apply KL.cons 7 rfl | apply KL.cons 8 rfl | apply KL.cons 9 rfl))); kernel_rfl))) rfl; done)
  | (refine zdv rfl (by kernel_rfl) (by first | (simp [hn] <;> omega) | fail) fun C k hC hk => ?_; simp [hne])
  | (refine CallP.f2 rfl (hnx) (by first | simp [hne] <;> rfl | fail) ?_; simp [hne])
  | fail)
  (refine hpan _ _ (PanG.k ([(i, pOb l q')]) (nx) (by simp [hn, hi, hne, zab, zac, zaa, getK] <;> omega) ?_); try simp)
  exact PPost.zbe (by simp [PR.bind])
theorem zlj {l : List Tok} (hl : TokOK l) {f p : Nat} {t : Tok} (ht : l[p]? = some t) (hk : ¬ t.kind = 2) (h1 : isB l p [116, 114, 117, 101] = true) {i nx : Nat} (hi : i < nx) :
  RetX Tryz.prog 145 [.ptr i 0] [(i, pOb l p)] nx (PPost l i nx ziN (zbG l (f + 1) p)) := by
 have hne := zbm hi;have hp := (List.getElem?_eq_some_iff.1 ht).1;have hnx := zdk l p t ht hl.len;have hll := hl.len;rw [zbG, ht];have hh1 := fun nx' (h : nx <= nx') => zb9 l p [116, 114, 117, 101] i nx' (by omega) hp hl.len;simp only [hk, h1, if_false, if_true] at hh1 ⊢;refine RetX.runW Tryz.func145 Tryz.ntmps145 rfl (by simp) fun Γ hn hpan => ?_
 repeat' (first
  | (refine zaf rfl ?_; simp [hne, hk, del])
  | (refine CallP.f2 rfl (hnx) (by first | simp [hne, hk, del] <;> rfl | fail) ?_; simp [hne, hk, del])
  | (refine CallP.ok1 (hh1 _ (by first | omega | (simp <;> omega) | fail)) (by first | (simp [hne, hk, del, zaa, getK, zab, zac]; done) | fail) (by rfl) (by first | assumption | (simp; done) | fail) (by rfl) (by simp) ?_; (try simp [hne, hk, del]))
  | fail)
 refine EndW.norm ?_;simp [St.norm, za6, zbN, zb7, zce, hne]
 (refine EndW.z ([(i, pOb l (p + 1))]) (N := nx) Tryz.results145 (by simp [hne, hi] <;> omega) ?_; simp [hne, hi])
 exact PPost.zdw rfl (by simp [Exp.row]) rfl
theorem zkj {l : List Tok} (hl : TokOK l) {f p : Nat} {t : Tok} (ht : l[p]? = some t) (hk : ¬ t.kind = 2) (h1 : isB l p [116, 114, 117, 101] = false) (h2 : isB l p [102, 97, 108, 115, 101] = true) {i nx : Nat} (hi : i < nx) :
  RetX Tryz.prog 145 [.ptr i 0] [(i, pOb l p)] nx (PPost l i nx ziN (zbG l (f + 1) p)) := by
 have hne := zbm hi;have hp := (List.getElem?_eq_some_iff.1 ht).1;have hnx := zdk l p t ht hl.len;have hll := hl.len;rw [zbG, ht];have hh1 := fun nx' (h : nx <= nx') => zb9 l p [116, 114, 117, 101] i nx' (by omega) hp hl.len;have hh2 := fun nx' (h : nx <= nx') => zb9 l p [102, 97, 108, 115, 101] i nx' (by omega) hp hl.len;simp only [hk, h1, h2, if_false, if_true, Bool.false_eq_true] at hh1 hh2 ⊢;refine RetX.runW Tryz.func145 Tryz.ntmps145 rfl (by simp) fun Γ hn hpan => ?_
 repeat' (first
  | (refine zaf rfl ?_; simp [hne, hk, del])
  | (refine CallP.f2 rfl (hnx) (by first | simp [hne, hk, del] <;> rfl | fail) ?_; simp [hne, hk, del])
  | (refine CallP.ok1 (hh1 _ (by first | omega | (simp <;> omega) | fail)) (by first | (simp [hne, hk, del, zaa, getK, zab, zac]; done) | fail) (by rfl) (by first | assumption | (simp; done) | fail) (by rfl) (by simp) ?_; (try simp [hne, hk, del]))
  | (refine CallP.ok1 (hh2 _ (by first | omega | (simp <;> omega) | fail)) (by first | (simp [hne, hk, del, zaa, getK, zab, zac]; done) | fail) (by rfl) (by first | assumption | (simp; done) | fail) (by rfl) (by simp) ?_; (try simp [hne, hk, del]))
  | fail)
 refine EndW.norm ?_;simp [St.norm, za6, zbN, zb7, zce, hne]
 (refine EndW.z ([(i, pOb l (p + 1))]) (N := nx) Tryz.results145 (by simp [hne, hi] <;> omega) ?_; simp [hne, hi])
 exact PPost.zdw rfl (by simp [Exp.row]) rfl
end Go.Proofs.YtmlpcgkaonifcaaGreatDoor
