import Derived.Test.YtkdhmbhbbciedaaGreatDoorO4
import Derived.Lib.ItoaLen
set_option linter.all false
set_option maxRecDepth 100000
set_option maxHeartbeats 8000000
namespace Go.Proofs.YtkdhmbhbbciedaaGreatDoor
open Go Go.VL
attribute [local simp] za2 zcH zbP evPure opd uOf zaq St.put St.at getK binD binI binS binB nilD aggD ze4 zfg lookD lookR zbM rangeS Go.VL.nextD Go.VL.nextS zbR zfi zfh zeD zb0 mkV zaX zaE zaD zaC zcG zaA zaP za5 mapEff zdm zeo Key.kk shiftI arith unD convD zda loadD cellsAt fieldAddrD fieldD indexAddrD indexSlD arrAddr indexD sliceD cutD lenD minmaxD nilCheckD buildD fillD zbv zcI zec setAll zcA zd1 zbK zeT zbJ St.add zak zbd rowsOf zcU zcb zad zac zaa zaW zcy zaH entry zah zaj valD zbW zcu zeU zcN zcO zbC zbu zag zaM za4 delAll effD St.effS zb6 zaF zat zb7 zaG zav zbq zau zam zbr zb5 za1 zbm zaO zbl zai mkD zbi zbb zbf zag zbT D.ids Op.operands Call.operands zbc makeIfD makeFuncD typeAssertD zff zcX zcY zfb zbN IntKind.bits zcx List.take_of_length_le List.range_succ zcm zbF zcn zch zba zbw zby zci zbA zaU zbz zbx zfO zbE zck zaK zaw zcl zaL zay zbD zax zap zcq zcr zfN zab frzN frz1 zaR zaQ St.frz St.frzS frzS fv zbQ zb2 zb3 zaS zaz zan frz zcd zbU zbY zbZ za6 St.norm St.lp St.only zaY wkE wkO wkU Ob.under D.under zal zar zco zbG zcp h4s zdT zas za7 List.zipIdx_cons List.zipIdx_nil List.map_cons List.map_nil Nat.zero_add
attribute [local irreducible] V G H HD HD2 za3 Eff CallP CallV EndOK Fun Ret FinOK LoopI LoopW EndW HR vs2 RN Cnd H4
def asc {β : Type} : List (List UInt8 × β) -> List UInt8 -> Option β
 | [], _ => none
 | (k, b) :: l, x => if x = k then some b else asc l x
def zfa {β : Type} : List (List UInt8 × β) -> List UInt8 -> β -> List (List UInt8 × β)
 | [], x, b => [(x, b)]
 | (k, c) :: l, x, b => if x = k then (k, b) :: l else (k, c) :: zfa l x b
theorem zhS {β : Type} (f : β -> List U) (x : List UInt8) : ∀ (l : List (List UInt8 × β)), zb0 (l.map fun p => (Key.s p.1, f p.2)) (.s x) = (asc l x).map f
 | [] => rfl
 | (k, b) :: l => by
  simp only [List.map_cons, zb0, asc, Key.s.injEq];split
  ·rfl
  ·exact zhS f x l
theorem zjm {β : Type} (f : β -> List U) (x : List UInt8) (b : β) : ∀ (l : List (List UInt8 × β)), zdm (l.map fun p => (Key.s p.1, f p.2)) (.s x) (f b) = (zfa l x b).map fun p => (Key.s p.1, f p.2)
 | [] => rfl
 | (k, c) :: l => by
  simp only [List.map_cons, zdm, zfa, Key.s.injEq];split
  ·rfl
  ·simp only [List.map_cons]; rw [zjm f x b l]
theorem zp3 {β : Type} (x y : List UInt8) (b : β) : ∀ (l : List (List UInt8 × β)), asc (zfa l x b) y = if y = x then some b else asc l y
 | [] => by simp [zfa, asc]
 | (k, c) :: l => by
  simp only [zfa];split
  ·rename_i h;subst h;simp only [asc];split <;> rfl
  ·rename_i h;simp only [asc, zp3 x y b l];by_cases h1 : y = k
   ·subst h1; simp [Ne.symm h]
   ·simp [h1]
mutual
def zeW (g : List UInt8 -> Option Int) (m : List UInt8 -> Option (Int × Int)) : Exp -> Int × Int
 | .mk op _ u s args =>
  if op = 0 then (u, 0)
  else if op = 1 then (match g s with | some u => (u, 0) | none => match m s with | some r => r | none => (0, 13))
  else match zf2 g m args with
   | .error b => (0, b)
   | .ok l => if (zit op l).2 = true then ((zit op l).1, 0) else (0, 14)
def zf2 (g : List UInt8 -> Option Int) (m : List UInt8 -> Option (Int × Int)) : List Exp -> Except Int (List Int)
 | [] => .ok []
 | e :: r => if (zeW g m e).2 ≠ 0 then .error (zeW g m e).2 else match zf2 g m r with
  | .error b => .error b
  | .ok l => .ok ((zeW g m e).1 :: l)
end
theorem zjo (g m) (e : Exp) : zeW g m e = if e.op = 0 then (e.unit, 0)
  else if e.op = 1 then (match g e.s with | some u => (u, 0) | none => match m e.s with | some r => r | none => (0, 13))
  else match zf2 g m e.args with
   | .error b => (0, b)
   | .ok l => if (zit e.op l).2 = true then ((zit e.op l).1, 0) else (0, 14) := by
 cases e with | mk op n u s args => rw [zeW]; rfl
theorem zkk {g m} : ∀ {l : List Exp}, (∀ x ∈ l, (zeW g m x).2 = 0) -> zf2 g m l = .ok (l.map fun x => (zeW g m x).1)
 | [], _ => by rw [zf2]; rfl
 | e :: r, h => by
  rw [zf2, if_neg (by simp [h e (by simp)]), zkk fun x hx => h x (by simp [hx])];rfl
theorem ziB {g m} : ∀ {l : List Exp} {i : Nat} {e : Exp}, l[i]? = some e -> (∀ x ∈ l.take i, (zeW g m x).2 = 0) -> (zeW g m e).2 ≠ 0 -> zf2 g m l = .error (zeW g m e).2
 | [], i, e, h, _, _ => by simp at h
 | a :: r, 0, e, h, _, h2 => by
  simp at h;subst h;rw [zf2, if_pos h2]
 | a :: r, i + 1, e, h, h1, h2 => by
  rw [zf2, if_neg (by simp [h1 a (by simp)]), ziB (l := r) (i := i) (by simpa using h) (fun x hx => h1 x (by simp [hx])) h2]
mutual
def zcv (m : List UInt8 -> Bool) : Exp -> Bool
 | .mk op _ u s args =>
  if op = 0 then decide (u = 4)
  else if op = 1 then m s
  else if op = 2 \/ op = 3 \/ op = 6 \/ op = 7 then zdr m args 0
  else if op = 4 then zdr m args 0 && zdr m args 1
  else if op = 13 then zdr m args 1
  else false
def zdr (m : List UInt8 -> Bool) : List Exp -> Nat -> Bool
 | [], _ => false
 | e :: _, 0 => zcv m e
 | _ :: r, n + 1 => zdr m r n
end
theorem zkt (m) (e : Exp) : zcv m e = if e.op = 0 then decide (e.unit = 4)
  else if e.op = 1 then m e.s
  else if e.op = 2 \/ e.op = 3 \/ e.op = 6 \/ e.op = 7 then zdr m e.args 0
  else if e.op = 4 then zdr m e.args 0 && zdr m e.args 1
  else if e.op = 13 then zdr m e.args 1
  else false := by
 cases e with | mk op n u s args => rw [zcv]; rfl
abbrev LM := List (List UInt8 × Int × Int × Bool)
abbrev GM := List (List UInt8 × Int)
def zsL (g : GM) : List (Key × List U) := g.map fun p => (Key.s p.1, [U.int .i64 p.2])
def ztJ (m : LM) : List (Key × List U) := m.map fun p => (Key.s p.1, [U.int .i64 p.2.1, .int .i64 p.2.2.1, .bool p.2.2.2])
theorem zr9 (g : GM) (x : List UInt8) : zb0 (zsL g) (.s x) = (asc g x).map fun u => [U.int .i64 u] := zhS (fun u : Int => [U.int .i64 u]) x g
theorem zr8 (g : LM) (x : List UInt8) : zb0 (ztJ g) (.s x) = (asc g x).map fun q => [U.int .i64 q.1, .int .i64 q.2.1, .bool q.2.2] := zhS (fun q : Int × Int × Bool => [U.int .i64 q.1, .int .i64 q.2.1, .bool q.2.2]) x g
def jU (g : GM) (m : LM) : U := .row [.map .s false (zsL g), .map .s true (ztJ m)] 0
def gF (g : GM) : List UInt8 -> Option Int := asc g
def mF (m : LM) : List UInt8 -> Option (Int × Int) := fun x => (asc m x).map fun q => (q.1, q.2.1)
def sF (m : LM) : List UInt8 -> Bool := fun x => ((asc m x).map fun q => q.2.2).getD false
theorem zdj {d : Nat} {e : Exp} (h : za0 (d + 1) e = true) : (e.args.length : Int) = zbt e.op /\ 0 <= e.op /\ e.op < 14 /\ (e.op ≠ 0 -> e.op ≠ 1 -> ∀ x ∈ e.args, za0 d x = true) := by
 rw [za0, Bool.and_eq_true, decide_eq_true_eq] at h;obtain ⟨h1, h2⟩ := h;have h3 : 0 <= e.op /\ e.op < 14 := by
  unfold zbt at h1;split at h1
  ·omega
  ·split at h1
   ·omega
   ·split at h1
    ·omega
    ·split at h1
     ·omega
     ·omega
 refine ⟨h1, h3.1, h3.2, fun ha hb x hx => ?_⟩;rw [if_neg ha] at h2;split at h2
 ·cases h2
 ·simp only [if_neg hb, Bool.and_eq_true, Bool.not_eq_true', List.any_eq_false, Bool.not_eq_true] at h2;have := h2.2 x hx;simpa using this
theorem zmE (g : GM) (m : LM) : ∀ (d : Nat) (e : Exp), za0 d e = true -> Fun Tryz.prog 91 [.u (jU g m), zcC e] (· = .tup [.u (.int .i64 (zeW (gF g) (mF m) e).1), .u (.int .i64 (zeW (gF g) (mF m) e).2)])
 | 0, e, h => by simp [za0] at h
 | d + 1, e, h => by
  obtain ⟨h1, h2, h3, h4⟩ := zdj h;have hg := zr9 g e.s;have hm := zr8 m e.s;by_cases h0 : e.op = 0
  ·rw [zjo, if_pos h0];refine Fun.run Tryz.func91 Tryz.ntmps91 Tryz.results91 rfl (by simp) fun Γ hn => ?_; simp only [entry, List.zipIdx_cons, List.zipIdx_nil, List.map_cons, List.map_nil, Nat.zero_add];simp only [zcC, jU]
   repeat' (first
  | (refine zaf rfl ?_; simp [h0])
  | fail)
   (refine Pst.of ?_; simp)
  by_cases hnm : e.op = 1
  ·rw [zjo, if_neg h0, if_pos hnm];refine Fun.run Tryz.func91 Tryz.ntmps91 Tryz.results91 rfl (by simp) fun Γ hn => ?_; simp only [entry, List.zipIdx_cons, List.zipIdx_nil, List.map_cons, List.map_nil, Nat.zero_add];simp only [zcC, jU];cases hga : asc g e.s with
   | some u =>
    rw [hga] at hg;simp only [Option.map_some] at hg
    repeat' (first
  | (refine zaf rfl ?_; simp [h0, hnm, hg])
  | (refine ⟨hC _ (by kernel_rfl), hk _ (zdb 8 _ _ _ ?_)⟩; clear hC hk C k; simp [h0, hnm, hg])
  | (refine zdX rfl (by kernel_rfl) (by first | (simp [hn]; done) | (simp [hn]; omega) | fail) fun C k hC hk => ?_; simp [h0, hnm, hg])
  | fail)
    (refine Pst.of ?_; simp)
    simp [gF, hga]
   | none =>
    rw [hga] at hg;simp only [Option.map_none] at hg;cases hma : asc m e.s with
    | some q =>
     rw [hma] at hm;simp only [Option.map_some] at hm
     repeat' (first
  | (refine zaf rfl ?_; simp [h0, hnm, hg, hm])
  | (refine ⟨hC _ (by kernel_rfl), hk _ (zdb 8 _ _ _ ?_)⟩; clear hC hk C k; simp [h0, hnm, hg, hm])
  | (refine zdX rfl (by kernel_rfl) (by first | (simp [hn]; done) | (simp [hn]; omega) | fail) fun C k hC hk => ?_; simp [h0, hnm, hg, hm])
  | fail)
     (refine Pst.of ?_; simp)
     simp [gF, hga, mF, hma]
    | none =>
     rw [hma] at hm;simp only [Option.map_none] at hm
     repeat' (first
  | (refine zaf rfl ?_; simp [h0, hnm, hg, hm])
  | (refine ⟨hC _ (by kernel_rfl), hk _ (zdb 8 _ _ _ ?_)⟩; clear hC hk C k; simp [h0, hnm, hg, hm])
  | (refine zdX rfl (by kernel_rfl) (by first | (simp [hn]; done) | (simp [hn]; omega) | fail) fun C k hC hk => ?_; simp [h0, hnm, hg, hm])
  | fail)
     (refine Pst.of ?_; simp)
     simp [gF, hga, mF, hma]
  rw [zjo, if_neg h0, if_neg hnm];refine Fun.run Tryz.func91 Tryz.ntmps91 Tryz.results91 rfl (by simp) fun Γ hn => ?_; simp only [entry, List.zipIdx_cons, List.zipIdx_nil, List.map_cons, List.map_nil, Nat.zero_add];simp only [zcC, jU];have hr := h4 h0 hnm
  repeat' (first
  | (refine zaf rfl ?_; simp [h0, hnm])
  | fail)
  refine zov _ (Wk.own 10 3 1 (by decide) rfl) ?_;simp [St.own];refine zdz (α := { p : Nat × List Int // p.1 <= e.args.length /\ p.2 = (e.args.take p.1).map (fun x => (zeW (gF g) (mF m) x).1) /\ ∀ x ∈ e.args.take p.1, (zeW (gF g) (mF m) x).2 = 0 }) [0, 3, 53, 54]
   (fun p => [(10, .vec 1 p.1.2.length), (55, .u (.int .i64 p.1.1))]) (fun p => [(1, .vec 3 1 (rowsD (p.1.2.map fun n => [U.int .i64 n]))), (0, .box [.u (.int .i64 e.op), .u (.int .i64 e.n), .u (.int .i64 e.unit), .u (.str e.s), .u (.sl (e.args.map Exp.row))])]) 2
   (fun p => e.args.length - p.1.1) ⟨(0, []), by simp, by simp, by simp⟩ ?_ ?_
  ·exact (Wk.zem (by simp [hn] <;> grind))
  rintro ⟨⟨i, acc⟩, hi, hacc, hb⟩;simp only at hi hacc hb;simp;rcases hx : e.args[i]? with _ | x
  ·have hge : e.args.length <= i := by simpa using hx
   rw [List.take_of_length_le hge] at hacc hb;have hok := zkk hb;rw [<- hacc] at hok;have hal : (acc.length : Int) = zbt e.op := by rw [hacc]; simpa using h1
   have h5 := zrj e.op acc (by omega) hal;simp only [zou] at h5;generalize hcb : zit e.op acc = cb at h5;obtain ⟨c1, c2⟩ := cb
   repeat' (first
  | (refine Cnd.of (fun hc => ?_) (fun hc => ?_) <;> (try (exfalso; omega)) <;> (try simp [hx, h0, hnm]))
  | (refine zaf rfl ?_; simp [hx, h0, hnm])
  | (refine CallP.f2 rfl (h5) (by first | simp [hx, h0, hnm] <;> rfl | fail) ?_; simp [hx, h0, hnm])
  | fail)
   all_goals
    (refine Pst.of ?_; simp)
   all_goals (rw [hok]; simp_all; done)
  ·have hlt : i < e.args.length := (List.getElem?_eq_some_iff.1 hx).1;have h5 := zmE g m d x (hr x (List.mem_of_getElem? hx));simp only [zcC, jU] at h5;have hal : acc.length = i := by rw [hacc]; simp; omega
   have h3a : e.args.length <= 3 := by
    have : zbt e.op ≤ 3 := by unfold zbt; repeat' split
                              all_goals omega
    omega
   have her := fun h => ziB (g := gF g) (m := mF m) hx hb h;generalize hun : zeW (gF g) (mF m) x = un at h5 her;obtain ⟨u, er⟩ := un
   repeat' (first
  | (refine Cnd.of (fun hc => ?_) (fun hc => ?_) <;> (try (exfalso; omega)) <;> (try simp [hx, x.row_eq, h0, hnm]))
  | (refine zaf rfl ?_; simp [hx, x.row_eq, h0, hnm])
  | (refine And.intro (by omega) ?_)
  | (refine CallP.f2 rfl (h5) (by first | simp [hx, x.row_eq, h0, hnm] <;> rfl | fail) ?_; simp [hx, x.row_eq, h0, hnm])
  | fail)
   ·(refine Pst.of ?_; simp)
    rw [her (by simpa using (by assumption : ¬ er = 0))];simp
   ·skip
    refine LoopW.next ⟨(i + 1, acc ++ [u]), (by omega : i + 1 <= e.args.length), (?_ : acc ++ [u] = _), ?_⟩ (by simp; omega) ?_
    ·rw [List.take_succ_eq_append_getElem hlt, List.map_append, <- hacc, (List.getElem?_eq_some_iff.1 hx).2];simp [hun]
    ·exact zca hx hb (by simp_all)
    ·exact (Wk.ren ((fun i => if i = 1 then 4 else i)) rfl (by first | (simp [hn]; done) | (intro i hi; rw [hn] at hi; constructor <;> (try simp) <;> (try (intro _)) <;> omega)) (by simp [zgu, St.lp, zaY, zaa, getK, zac, zad, D.under, D.le, D.ren] <;> (try (intros; simp_all; done)) <;> (try omega)) (by simp [wkR, St.lp, zaa, getK, zac, zad, obR, leU, zbn, zaN, Ob.under, D.under, D.le, D.ren] <;> (try (intros; simp_all; done)) <;> (try omega)) (by simp))
theorem zeH (g : GM) (m : LM) : ∀ (d : Nat) (e : Exp), za0 d e = true -> Fun Tryz.prog 60 [.u (jU g m), zcC e] (· = .u (.bool (zcv (sF m) e)))
 | 0, e, h => by simp [za0] at h
 | d + 1, e, h => by
  obtain ⟨h1, h2, h3, h4⟩ := zdj h;rw [zkt];have hm := zr8 m e.s;by_cases h0 : e.op = 0
  ·rw [if_pos h0];refine Fun.run Tryz.func60 Tryz.ntmps60 Tryz.results60 rfl (by simp) fun Γ hn => ?_; simp only [entry, List.zipIdx_cons, List.zipIdx_nil, List.map_cons, List.map_nil, Nat.zero_add];simp only [zcC, jU]
   repeat' (first
  | (refine zaf rfl ?_; simp [h0])
  | fail)
   (refine Pst.of ?_; simp)
  rw [if_neg h0];by_cases hnm : e.op = 1
  ·rw [if_pos hnm];cases hma : asc m e.s with
   | some q =>
    rw [hma] at hm;simp only [Option.map_some] at hm;refine Fun.run Tryz.func60 Tryz.ntmps60 Tryz.results60 rfl (by simp) fun Γ hn => ?_; simp only [entry, List.zipIdx_cons, List.zipIdx_nil, List.map_cons, List.map_nil, Nat.zero_add];simp only [zcC, jU]
    repeat' (first
  | (refine zaf rfl ?_; simp [h0, hnm, hm])
  | (refine ⟨hC _ (by kernel_rfl), hk _ (zdb 8 _ _ _ ?_)⟩; clear hC hk C k; simp [h0, hnm, hm])
  | (refine zdX rfl (by kernel_rfl) (by first | (simp [hn]; done) | (simp [hn]; omega) | fail) fun C k hC hk => ?_; simp [h0, hnm, hm])
  | fail)
    (refine Pst.of ?_; simp)
    simp [sF, hma]
   | none =>
    rw [hma] at hm;simp only [Option.map_none] at hm;refine Fun.run Tryz.func60 Tryz.ntmps60 Tryz.results60 rfl (by simp) fun Γ hn => ?_; simp only [entry, List.zipIdx_cons, List.zipIdx_nil, List.map_cons, List.map_nil, Nat.zero_add];simp only [zcC, jU]
    repeat' (first
  | (refine zaf rfl ?_; simp [h0, hnm, hm])
  | (refine ⟨hC _ (by kernel_rfl), hk _ (zdb 8 _ _ _ ?_)⟩; clear hC hk C k; simp [h0, hnm, hm])
  | (refine zdX rfl (by kernel_rfl) (by first | (simp [hn]; done) | (simp [hn]; omega) | fail) fun C k hC hk => ?_; simp [h0, hnm, hm])
  | fail)
    (refine Pst.of ?_; simp)
    simp [sF, hma]
  rw [if_neg hnm];have hr := h4 h0 hnm;by_cases hA : e.op = 2 \/ e.op = 3 \/ e.op = 6 \/ e.op = 7
  ·rw [if_pos hA];have hl : e.args.length = 2 := by
    rcases hA with ha | ha | ha | ha <;> rw [ha] at h1 <;> simp [zbt] at h1 <;> omega
   obtain ⟨a, b, hab⟩ : ∃ a b, e.args = [a, b] := by
    match hq : e.args, hl with
    | [a, b], _ => exact ⟨a, b, rfl⟩
   have h5 := zeH g m d a (hr a (by simp [hab]));simp only [zcC, jU] at h5;rw [hab, zdr];rcases hA with ha | ha | ha | ha
   all_goals
    refine Fun.run Tryz.func60 Tryz.ntmps60 Tryz.results60 rfl (by simp) fun Γ hn => ?_; simp only [entry, List.zipIdx_cons, List.zipIdx_nil, List.map_cons, List.map_nil, Nat.zero_add];simp only [zcC, jU]
    repeat' (first
  | (refine zaf rfl ?_; simp [ha, hab, a.row_eq, b.row_eq])
  | (refine CallP.f2 rfl (h5) (by first | simp [ha, hab, a.row_eq, b.row_eq] <;> rfl | fail) ?_; simp [ha, hab, a.row_eq, b.row_eq])
  | fail)
    (refine Pst.of ?_; simp)
  rw [if_neg hA];by_cases hB : e.op = 4
  ·rw [if_pos hB];have hl : e.args.length = 2 := by rw [hB] at h1; simp [zbt] at h1; omega
   obtain ⟨a, b, hab⟩ : ∃ a b, e.args = [a, b] := by
    match hq : e.args, hl with
    | [a, b], _ => exact ⟨a, b, rfl⟩
   have h5 := zeH g m d a (hr a (by simp [hab]));have h6 := zeH g m d b (hr b (by simp [hab]));simp only [zcC, jU] at h5 h6;rw [hab, zdr, zdr, zdr];generalize zcv (sF m) a = x1 at h5 ⊢;generalize zcv (sF m) b = x2 at h6 ⊢;refine Fun.run Tryz.func60 Tryz.ntmps60 Tryz.results60 rfl (by simp) fun Γ hn => ?_; simp only [entry, List.zipIdx_cons, List.zipIdx_nil, List.map_cons, List.map_nil, Nat.zero_add];simp only [zcC, jU]
   repeat' (first
  | (refine Cnd.of (fun hc => ?_) (fun hc => ?_) <;> (try (exfalso; omega)) <;> (try simp [hB, hab, a.row_eq, b.row_eq]))
  | (refine zaf rfl ?_; simp [hB, hab, a.row_eq, b.row_eq])
  | ((first | refine CallP.f2 rfl (h5) (by first | simp [hB, hab, a.row_eq, b.row_eq] <;> rfl | fail) ?_ | refine CallP.f2 rfl (h6) (by first | simp [hB, hab, a.row_eq, b.row_eq] <;> rfl | fail) ?_ | fail); simp [hB, hab, a.row_eq, b.row_eq])
  | fail)
   all_goals
    (refine Pst.of ?_; simp)
   all_goals (simp_all; done)
  rw [if_neg hB];by_cases hC : e.op = 13
  ·rw [if_pos hC];have hl : e.args.length = 3 := by rw [hC] at h1; simp [zbt] at h1; omega
   obtain ⟨a, b, c, hab⟩ : ∃ a b c, e.args = [a, b, c] := by
    match hq : e.args, hl with
    | [a, b, c], _ => exact ⟨a, b, c, rfl⟩
   have h5 := zeH g m d b (hr b (by simp [hab]));simp only [zcC, jU] at h5;rw [hab, zdr, zdr];refine Fun.run Tryz.func60 Tryz.ntmps60 Tryz.results60 rfl (by simp) fun Γ hn => ?_; simp only [entry, List.zipIdx_cons, List.zipIdx_nil, List.map_cons, List.map_nil, Nat.zero_add];simp only [zcC, jU]
   repeat' (first
  | (refine zaf rfl ?_; simp [hC, hab, a.row_eq, b.row_eq, c.row_eq])
  | (refine CallP.f2 rfl (h5) (by first | simp [hC, hab, a.row_eq, b.row_eq, c.row_eq] <;> rfl | fail) ?_; simp [hC, hab, a.row_eq, b.row_eq, c.row_eq])
  | fail)
   (refine Pst.of ?_; simp)
  rw [if_neg hC];have hD : ¬ e.op = 2 /\ ¬ e.op = 3 /\ ¬ e.op = 6 /\ ¬ e.op = 7 := by omega
  refine Fun.run Tryz.func60 Tryz.ntmps60 Tryz.results60 rfl (by simp) fun Γ hn => ?_; simp only [entry, List.zipIdx_cons, List.zipIdx_nil, List.map_cons, List.map_nil, Nat.zero_add];simp only [zcC, jU]
  repeat' (first
  | (refine zaf rfl ?_; simp [h0, hnm, hB, hC, hD.1, hD.2.1, hD.2.2.1, hD.2.2.2])
  | fail)
  (refine Pst.of ?_; simp)
theorem zsA (l : Let) : Fun Tryz.prog 90 (zsF l :: [].map .u) (· = .u (.bool (!za0 12 l.body))) := by
 have h1 := zeq l.body;simp only [zsF, List.map_nil, zcC] at h1 ⊢;refine Fun.run Tryz.func90 Tryz.ntmps90 Tryz.results90 rfl (by simp) fun Γ hn => ?_
 repeat' (first
  | (refine zaf rfl ?_; simp)
  | (refine CallP.f2 rfl (h1) (by first | simp <;> rfl | fail) ?_; simp)
  | fail)
 (refine Pst.of ?_; simp)
def zql (l : List Var) : U := .sl (l.map fun v => [.str v.name, .int .i64 v.unit, .int .i64 v.n])
def gOf (names : List Var) : GM := names.foldl (fun g v => if asc g v.name = none then zfa g v.name v.unit else g) []
def mOf (g : GM) (lets : List Let) : LM := lets.foldl (fun m l => zfa m l.name ((zeW (gF g) (mF m) l.body).1, (zeW (gF g) (mF m) l.body).2, zcv (sF m) l.body)) []
def zhu (v : Var) : Bool := decide (0 <= v.unit) && decide (v.unit < 5)
def zbh (lets : List Let) (e : Exp) : Bool := decide (lets.length <= 20) && za0 12 e && !lets.any (fun l => !za0 12 l.body)
def okJ (lets : List Let) (names : List Var) (e : Exp) : Bool := zbh lets e && names.all zhu
def zpp (lets : List Let) (names : List Var) (e : Exp) : D := if okJ lets names e = true then .tup [.u (jU (gOf names) (mOf (gOf names) lets)), .u (.bool true)] else .tup [.u (.oth (.pointer none)), .u (.bool false)]
theorem zqm (g : GM) (x : List UInt8) (u : Int) : zdm (zsL g) (.s x) [U.int .i64 u] = zsL (zfa g x u) := zjm (fun u : Int => [U.int .i64 u]) x u g
theorem zg5 (g : LM) (x : List UInt8) (u e : Int) (b : Bool) : zdm (ztJ g) (.s x) [U.int .i64 u, .int .i64 e, .bool b] = ztJ (zfa g x (u, e, b)) := zjm (fun q : Int × Int × Bool => [U.int .i64 q.1, .int .i64 q.2.1, .bool q.2.2]) x (u, e, b) g
theorem zi5 {α β : Type} (f : β -> α -> β) (b : β) {l : List α} {i : Nat} {x : α} (h : l[i]? = some x) : (l.take (i + 1)).foldl f b = f ((l.take i).foldl f b) x := by
 obtain ⟨hi, rfl⟩ := List.getElem?_eq_some_iff.1 h;rw [List.take_succ_eq_append_getElem hi, List.foldl_append];rfl
theorem zra {names : List Var} {i : Nat} {v : Var} (h : names[i]? = some v) : gOf (names.take (i + 1)) = if asc (gOf (names.take i)) v.name = none then zfa (gOf (names.take i)) v.name v.unit else gOf (names.take i) := zi5 _ _ h
theorem zmP {g : GM} {lets : List Let} {i : Nat} {l : Let} (h : lets[i]? = some l) : mOf g (lets.take (i + 1)) = zfa (mOf g (lets.take i)) l.name ((zeW (gF g) (mF (mOf g (lets.take i))) l.body).1, (zeW (gF g) (mF (mOf g (lets.take i))) l.body).2, zcv (sF (mOf g (lets.take i))) l.body) := zi5 _ _ h
theorem zpo (lets : List Let) (names : List Var) (e : Exp) : Fun Tryz.prog 59 [.u (zaB lets), .u (zql names), zcC e] (· = zpp lets names e) := by
 have h1 := zeq e;have h2 := zgl lets 90 [] _ (fun x _ => zsA x) (by simp) (fun _ => rfl) (fun _ => rfl);simp only [List.map_nil, zaB, zcC] at h1 h2;generalize hre : za0 12 e = re at h1;generalize hrl : (lets.any fun l => !za0 12 l.body) = rl at h2;have hok0 : okJ lets names e = (decide (lets.length <= 20) && re && !rl && names.all zhu) := by rw [okJ, zbh, hre, hrl]
 have hre' := hre;have hrl' := hrl;clear hre hrl;unfold zpp;generalize okJ lets names e = K at hok0 ⊢;refine Fun.runW Tryz.func59 Tryz.ntmps59 rfl (by simp) fun Γ hn => ?_; simp only [entry, List.zipIdx_cons, List.zipIdx_nil, List.map_cons, List.map_nil, Nat.zero_add];simp only [zcC, zaB, zql];refine zie (x := 0) rfl fun hl0 => ?_;refine zie (x := 1) rfl fun hl1 => ?_;simp only [List.length_map] at hl0 hl1
 repeat' (first
  | (refine Cnd.of (fun hc => ?_) (fun hc => ?_) <;> (try (exfalso; omega)) <;> (try simp))
  | (refine zaf rfl ?_; simp)
  | ((first | refine CallP.f2 rfl (h1) (by first | simp <;> rfl | fail) ?_ | refine CallP.f2 rfl (h2) (by first | simp <;> rfl | fail) ?_ | fail); simp)
  | fail)
 all_goals try (refine EndW.here ?_; have hKf : K = false := (by first | (rw [hok0]; clear h1 h2 hok0 hre' hrl'; simp; intros; simp_all; done) | (rw [hok0]; clear h1 h2 hok0 hre' hrl'; simp; intros; omega) | fail); subst hKf; (refine EndOK.val (.inr rfl) ?_; simp [Tryz.results59]); done)
 refine zdz (α := { i : Nat // i <= names.length /\ ∀ v ∈ names.take i, zhu v = true }) [0, 8, 33, 34] (fun i => [(35, .u (.int .i64 i.1))])
  (fun i => [(3, .box [.mp 1, .mp 2]), (2, .map .s true []), (1, .map .s false (zjV (zsL (gOf (names.take i.1))))), (0, .box [.u (.int .i64 e.op), .u (.int .i64 e.n), .u (.int .i64 e.unit), .u (.str e.s), .u (.sl (e.args.map Exp.row))])]) 4
  (fun i => names.length - i.1) ⟨0, by omega, by simp⟩ ?_ ?_
 ·exact (Wk.zem (by simp [hn, gOf, zsL, zaX, Ob.under] <;> grind))
 rintro ⟨i, hi, hb⟩;simp;rcases hx : names[i]? with _ | v
 ·have hge : names.length <= i := by simpa using hx
  obtain rfl : i = names.length := by omega
  rw [List.take_length] at hb;have hall : names.all zhu = true := by simpa [List.all_eq_true] using hb
  repeat' (first
  | (refine zaf rfl ?_; simp [hx])
  | fail)
  refine zdz (α := { i : Nat // i <= lets.length }) [8, 68, 69] (fun i => [(70, .u (.int .i64 i.1))])
   (fun i => [(3, .box [.mp 1, .mp 2]), (2, .map .s true (zjV (ztJ (mOf (gOf names) (lets.take i.1))))), (1, .map .s false (zjV (zsL (gOf names)))), (0, .box [.u (.int .i64 e.op), .u (.int .i64 e.n), .u (.int .i64 e.unit), .u (.str e.s), .u (.sl (e.args.map Exp.row))])]) 4
   (fun i => lets.length - i.1) ⟨0, by omega⟩ ?_ ?_
  ·exact (Wk.zem (by simp [hn, mOf, ztJ, zaX, Ob.under] <;> grind))
  rintro ⟨k, hk0⟩;simp;rcases hy : lets[k]? with _ | l
  ·have hgk : lets.length <= k := by simpa using hy
   obtain rfl : k = lets.length := by omega
   obtain rfl : K = true := by
    rw [hok0, hall];have : lets.length <= 20 := by omega
    clear h1 h2;simp_all
   repeat' (first
  | (refine zaf rfl ?_; simp [hy])
  | fail)
   (refine EndW.frzN 2 ?_; simp [del])
   (refine EndW.frzB 3 ?_; simp [frzB, zaR, zaQ, St.frzS, frzS, fv, zbQ, zb2, zb3, zaS, zaz, zan, del])
   refine EndW.here ?_
   (refine EndOK.val (.inr rfl) ?_; simp [Tryz.results59])
   rfl
  ·have hltk : k < lets.length := (List.getElem?_eq_some_iff.1 hy).1;have hsu := zmP (g := gOf names) hy;have hrl : za0 12 l.body = true := by
    have h7 : (lets.any fun l => !za0 12 l.body) = false := by rw [hrl']; assumption
    rw [List.any_eq_false] at h7;simpa using h7 l (List.mem_of_getElem? hy)
   have h5 := zmE (gOf names) (mOf (gOf names) (lets.take k)) 12 l.body hrl;have h6 := zeH (gOf names) (mOf (gOf names) (lets.take k)) 12 l.body hrl;simp only [zcC, jU] at h5 h6
   repeat' (first
  | (refine Cnd.of (fun hc => ?_) (fun hc => ?_) <;> (try (exfalso; omega)) <;> (try simp [hy, zg5]))
  | (refine zaf rfl ?_; simp [hy, zg5])
  | (refine And.intro (by omega) ?_)
  | (refine ⟨hC _ (by kernel_rfl), hk _ (zdb 8 _ _ _ ?_)⟩; clear hC hk C k; simp [hy, zg5])
  | (refine zdX rfl (by kernel_rfl) (by first | (simp [hn]; done) | (simp [hn]; omega) | fail) fun C k hC hk => ?_; simp [hy, zg5])
  | (refine zb9 rfl ?_; simp [hy, zg5])
  | (refine zcg rfl ?_; simp [hy, zg5])
  | ((first | refine CallP.f2 rfl (h5) (by first | simp [hy, zg5] <;> rfl | fail) ?_ | refine CallP.f2 rfl (h6) (by first | simp [hy, zg5] <;> rfl | fail) ?_ | fail); simp [hy, zg5])
  | ((first | refine CallV.f2 rfl (h5) (by first | simp [hy, zg5] <;> rfl | fail) ?_ | refine CallV.f2 rfl (h6) (by first | simp [hy, zg5] <;> rfl | fail) ?_ | fail); simp [hy, zg5])
  | fail)
   refine LoopW.next ⟨k + 1, by omega⟩ (by simp; omega) ?_
   exact (Wk.zem (by simp [hn, hsu] <;> grind))
 ·have hlt : i < names.length := (List.getElem?_eq_some_iff.1 hx).1;have hg := zr9 (gOf (names.take i)) v.name;have hsu := zra hx;have hok : zhu v = (decide (0 <= v.unit) && decide (v.unit < 5)) := rfl;have hbad : zhu v = false -> names.all zhu = false := fun h => by
   rw [List.all_eq_false];exact ⟨v, List.mem_of_getElem? hx, by simp [h]⟩
  cases hga : asc (gOf (names.take i)) v.name with
  | some u =>
   rw [hga] at hg hsu;simp only [Option.map_some] at hg
   repeat' (first
  | (refine Cnd.of (fun hc => ?_) (fun hc => ?_) <;> (try (exfalso; omega)) <;> (try simp [hx, hg]))
  | (refine zaf rfl ?_; simp [hx, hg])
  | (refine And.intro (by omega) ?_)
  | (refine ⟨hC _ (by kernel_rfl), hk _ (zdb 8 _ _ _ ?_)⟩; clear hC hk C k; simp [hx, hg])
  | (refine zdX rfl (by kernel_rfl) (by first | (simp [hn]; done) | (simp [hn]; omega) | fail) fun C k hC hk => ?_; simp [hx, hg])
  | fail)
   all_goals first
    | (refine LoopW.next ⟨i + 1, by omega, zca hx hb (by rw [hok]; simp; omega)⟩ (by simp; omega) ?_; exact (Wk.zem (by simp [hn, hsu] <;> grind)))
    | (refine EndW.here ?_; have hKf : K = false := (by first | (rw [hok0, hbad (by rw [hok]; simp; omega)]; simp; done) | fail); subst hKf; (refine EndOK.val (.inr rfl) ?_; simp [Tryz.results59]))
  | none =>
   rw [hga] at hg hsu;simp only [Option.map_none] at hg
   repeat' (first
  | (refine Cnd.of (fun hc => ?_) (fun hc => ?_) <;> (try (exfalso; omega)) <;> (try simp [hx, hg, zqm]))
  | (refine zaf rfl ?_; simp [hx, hg, zqm])
  | (refine And.intro (by omega) ?_)
  | (refine ⟨hC _ (by kernel_rfl), hk _ (zdb 8 _ _ _ ?_)⟩; clear hC hk C k; simp [hx, hg, zqm])
  | (refine zdX rfl (by kernel_rfl) (by first | (simp [hn]; done) | (simp [hn]; omega) | fail) fun C k hC hk => ?_; simp [hx, hg, zqm])
  | fail)
   all_goals first
    | (refine LoopW.next ⟨i + 1, by omega, zca hx hb (by rw [hok]; simp; omega)⟩ (by simp; omega) ?_; exact (Wk.zem (by simp [hn, hsu] <;> grind)))
    | (refine EndW.here ?_; have hKf : K = false := (by first | (rw [hok0, hbad (by rw [hok]; simp; omega)]; simp; done) | fail); subst hKf; (refine EndOK.val (.inr rfl) ?_; simp [Tryz.results59]))
end Go.Proofs.YtkdhmbhbbciedaaGreatDoor
namespace Go.Proofs.YtkdhmbhbbciedaaGreatDoor.Vm
open Go Go.VL
attribute [local simp] za2 zcH zbP evPure opd uOf zaq St.put St.at getK binD binI binS binB nilD aggD ze4 zfg lookD lookR zbM rangeS Go.VL.nextD Go.VL.nextS zbR zfi zfh zeD zb0 mkV zaX zaE zaD zaC zcG zaA zaP za5 mapEff zdm zeo Key.kk shiftI arith unD convD zda loadD cellsAt fieldAddrD fieldD indexAddrD indexSlD arrAddr indexD sliceD cutD lenD minmaxD nilCheckD buildD fillD zbv zcI zec setAll zcA zd1 zbK zeT zbJ St.add zak zbd rowsOf zcU zcb zad zac zaa zaW zcy zaH entry zah zaj valD zbW zcu zeU zcN zcO zbC zbu zag zaM za4 delAll effD St.effS zb6 zaF zat zb7 zaG zav zbq zau zam zbr zb5 za1 zbm zaO zbl zai mkD zbi zbb zbf zag zbT D.ids Op.operands Call.operands zbc makeIfD makeFuncD typeAssertD zff zcX zcY zfb zbN IntKind.bits zcx List.take_of_length_le List.range_succ zcm zbF zcn zch zba zbw zby zci zbA zaU zbz zbx zfO zbE zck zaK zaw zcl zaL zay zbD zax zap zcq zcr zfN zab frzN frz1 zaR zaQ St.frz St.frzS frzS fv zbQ zb2 zb3 zaS zaz zan frz zcd zbU zbY zbZ za6 St.norm St.lp St.only zaY wkE wkO wkU Ob.under D.under zal zar zco zbG zcp h4s zdT zas za7 List.zipIdx_cons List.zipIdx_nil List.map_cons List.map_nil Nat.zero_add
attribute [local irreducible] V G H HD HD2 za3 Eff CallP CallV EndOK Fun Ret FinOK LoopI LoopW EndW HR vs2 RN Cnd H4
end Go.Proofs.YtkdhmbhbbciedaaGreatDoor.Vm
namespace Go.Proofs.YtkdhmbhbbciedaaGreatDoor
open Go Go.VL
attribute [local simp] za2 zcH zbP evPure opd uOf zaq St.put St.at getK binD binI binS binB nilD aggD ze4 zfg lookD lookR zbM rangeS Go.VL.nextD Go.VL.nextS zbR zfi zfh zeD zb0 mkV zaX zaE zaD zaC zcG zaA zaP za5 mapEff zdm zeo Key.kk shiftI arith unD convD zda loadD cellsAt fieldAddrD fieldD indexAddrD indexSlD arrAddr indexD sliceD cutD lenD minmaxD nilCheckD buildD fillD zbv zcI zec setAll zcA zd1 zbK zeT zbJ St.add zak zbd rowsOf zcU zcb zad zac zaa zaW zcy zaH entry zah zaj valD zbW zcu zeU zcN zcO zbC zbu zag zaM za4 delAll effD St.effS zb6 zaF zat zb7 zaG zav zbq zau zam zbr zb5 za1 zbm zaO zbl zai mkD zbi zbb zbf zag zbT D.ids Op.operands Call.operands zbc makeIfD makeFuncD typeAssertD zff zcX zcY zfb zbN IntKind.bits zcx List.take_of_length_le List.range_succ zcm zbF zcn zch zba zbw zby zci zbA zaU zbz zbx zfO zbE zck zaK zaw zcl zaL zay zbD zax zap zcq zcr zfN zab frzN frz1 zaR zaQ St.frz St.frzS frzS fv zbQ zb2 zb3 zaS zaz zan frz zcd zbU zbY zbZ za6 St.norm St.lp St.only zaY wkE wkO wkU Ob.under D.under zal zar zco zbG zcp h4s zdT zas za7 List.zipIdx_cons List.zipIdx_nil List.map_cons List.map_nil Nat.zero_add
attribute [local irreducible] V G H HD HD2 za3 Eff CallP CallV EndOK Fun Ret FinOK LoopI LoopW EndW HR vs2 RN Cnd H4
theorem zp0 (c : UInt8) : Fun Tryz.prog 166 [.u (.int .u8 c.toNat)] (· = .u (.bool (zcW c))) := by
 unfold zcW;refine Fun.run Tryz.func166 Tryz.ntmps166 Tryz.results166 rfl (by simp) fun Γ hn => ?_
 repeat' (first
  | (refine Cnd.of (fun hc => ?_) (fun hc => ?_) <;> (try (exfalso; omega)) <;> (try simp))
  | (refine zaf rfl ?_; simp)
  | fail)
 all_goals
  (refine Pst.of ?_; simp)
 all_goals first | omega | (rw [Bool.eq_iff_iff]; simp; omega) | (simp; omega)
theorem zo5 (c : UInt8) : Fun Tryz.prog 180 [.u (.int .u8 c.toNat)] (· = .u (.bool (zdV c))) := by
 unfold zdV;refine Fun.run Tryz.func180 Tryz.ntmps180 Tryz.results180 rfl (by simp) fun Γ hn => ?_
 repeat' (first
  | (refine Cnd.of (fun hc => ?_) (fun hc => ?_) <;> (try (exfalso; omega)) <;> (try simp))
  | (refine zaf rfl ?_; simp)
  | ((first | refine CallP.f2 rfl (zeM c) (by first | simp <;> rfl | fail) ?_ | refine CallP.f2 rfl (zfw c) (by first | simp <;> rfl | fail) ?_ | fail); simp)
  | fail)
 all_goals
  (refine Pst.of ?_; simp)
 all_goals simp_all
theorem zep (p : UInt8 -> Bool) (l : List UInt8) : zdn p l <= l.length := by
 unfold zdn;exact (List.takeWhile_sublist p).length_le
theorem zkr {p : UInt8 -> Bool} {l : List UInt8} (h : zdn p l = l.length) : ∀ c ∈ l, p c = true := by
 have : l.takeWhile p = l := (List.takeWhile_sublist p).eq_of_length h;intro c hc;rw [<- this] at hc;exact List.all_eq_true.1 (List.all_takeWhile (l := l) (p := p)) c hc
theorem znH (s : List UInt8) (hl : s.length <= 1000000) : Fun Tryz.prog 181 [.u (.str s)] (· = .tup [.u (.int .i64 ((zgC s).getD 0)), .u (.bool (zgC s).isSome)]) := by
 have hsp := zf5 s hl 157 zbg (fun c _ => zfw c) (by simp);unfold zgC;cases s with
 | nil =>
  refine Fun.run Tryz.func181 Tryz.ntmps181 Tryz.results181 rfl (by simp) fun Γ hn => ?_
  repeat' (first
  | (refine zaf rfl ?_; simp)
  | fail)
  all_goals
   (refine Pst.of ?_; simp)
 | cons c s =>
  by_cases h1 : zdn zbg (c :: s) = (c :: s).length
  case neg =>
   rw [if_pos (.inr (.inl h1))];have h1' : ¬ (zdn zbg (c :: s) : Int) = s.length + 1 := by simp at h1; omega
   refine Fun.run Tryz.func181 Tryz.ntmps181 Tryz.results181 rfl (by simp) fun Γ hn => ?_
   repeat' (first
  | (refine zaf rfl ?_; simp [h1'])
  | (refine CallP.f2 rfl (hsp) (by first | simp [h1'] <;> rfl | fail) ?_; simp [h1'])
  | fail)
   all_goals
    (refine Pst.of ?_; simp)
  have h1' : (zdn zbg (c :: s) : Int) = s.length + 1 := by simp at h1; omega
  by_cases h2 : c.toNat = 48 /\ s ≠ []
  ·rw [if_pos (.inr (.inr (.inl ⟨by have := h2.1; simp; exact UInt8.toNat_inj.1 this, by simp; intro _; exact h2.2⟩)))];have h2b := h2.1;have h2a := h2.2;refine Fun.run Tryz.func181 Tryz.ntmps181 Tryz.results181 rfl (by simp) fun Γ hn => ?_
   repeat' (first
  | (refine zaf rfl ?_; simp [h1', h2a, h2b])
  | (refine CallP.f2 rfl (hsp) (by first | simp [h1', h2a, h2b] <;> rfl | fail) ?_; simp [h1', h2a, h2b])
  | fail)
   all_goals
    (refine Pst.of ?_; simp)
  have h2' : c.toNat = 48 -> s = [] := fun h => by
   by_cases hs : s = []
   ·exact hs
   ·exact absurd ⟨h, hs⟩ h2
  by_cases h3 : 13 < (c :: s).length
  ·rw [if_pos (.inr (.inr (.inr h3)))];have h3' : 13 < (s.length : Int) + 1 := by simp at h3; omega
   have hne : s ≠ [] := fun e => by rw [e] at h3; simp at h3
   have h2'' : ¬ c.toNat = 48 := fun h => hne (h2' h);refine Fun.run Tryz.func181 Tryz.ntmps181 Tryz.results181 rfl (by simp) fun Γ hn => ?_
   repeat' (first
  | (refine Cnd.of (fun hc => ?_) (fun hc => ?_) <;> (try (exfalso; omega)) <;> (try simp [h1', h2'', h3']))
  | (refine zaf rfl ?_; simp [h1', h2'', h3'])
  | (refine CallP.f2 rfl (hsp) (by first | simp [h1', h2'', h3'] <;> rfl | fail) ?_; simp [h1', h2'', h3'])
  | fail)
   all_goals
    (refine Pst.of ?_; simp)
  have hall := zkr h1;rw [if_neg (by
   simp only [not_or];refine ⟨by simp, fun h => h h1, fun h => ?_, h3⟩;have hc48 : c = 48 := by have := h.1; simpa using this
   have := h2' (by rw [hc48]; rfl);rw [this, hc48] at h;exact h.2 rfl)]
  have h3' : ¬ 13 < (s.length : Int) + 1 := by simp at h3; omega
  have hval : ∀ k, k <= (c :: s).length -> 0 <= zbS ((c :: s).take k) /\ zbS ((c :: s).take k) < 10 ^ 13 := fun k hk => by
   have h4 := zgk k ((c :: s).take k) (by simp; simp at hk; omega) (fun x hx => hall x (List.mem_of_mem_take hx));have : (10 : Int) ^ k <= 10 ^ 13 := by
    have := Nat.pow_le_pow_right (n := 10) (by omega) (show k <= 13 by simp at h3 hk; omega)
    exact_mod_cast this
   omega
  have hloop : ∀ (hw : c.toNat = 48 -> s = []), Fun Tryz.prog 181 [.u (.str (c :: s))] (· = .tup [.u (.int .i64 ((if 1099511627776 < zbS (c :: s) then none else some (zbS (c :: s)) : Option Int).getD 0)), .u (.bool (if 1099511627776 < zbS (c :: s) then none else some (zbS (c :: s)) : Option Int).isSome)]) := fun hw => by
   by_cases h48 : c.toNat = 48
   ·have h48' : (c.toNat : Int) = 48 := by omega
    have hc48 : (c = 48) = True := eq_true (UInt8.toNat_inj.1 h48);have hs0 : (s = []) = True := eq_true (hw h48);refine Fun.run Tryz.func181 Tryz.ntmps181 Tryz.results181 rfl (by simp) fun Γ hn => ?_
    repeat' (first
  | (refine zaf rfl ?_; simp [h1', h3', h48', hc48, hs0])
  | (refine CallP.f2 rfl (hsp) (by first | simp [h1', h3', h48', hc48, hs0] <;> rfl | fail) ?_; simp [h1', h3', h48', hc48, hs0])
  | fail)
    refine zdh (α := { i : Nat // i <= (c :: s).length }) [0, 30] (fun i => [(4, .u (.int .i64 (zbS ((c :: s).take i.1)))), (31, .u (.int .i64 i.1))]) (fun i => (c :: s).length - i.1) ⟨0, by omega⟩ ?_ ?_
    ·exact (Wk.zem (by simp [hn, zbS] <;> grind))
    rintro ⟨i, hi⟩;simp;rcases hx : (c :: s)[i]? with _ | a
    ·have hge : (c :: s).length <= i := by simpa using hx
     obtain rfl : i = (c :: s).length := by omega
     rw [List.take_length];have hge2 : ¬ ((c :: s).length : Int) < s.length + 1 := by simp
     by_cases hb : 1099511627776 < zbS (c :: s)
     ·repeat' (first
  | (refine zaf rfl ?_; simp [hb, hge2])
  | fail)
      (refine Pst.of ?_; simp)
      try simp [hb]
     ·repeat' (first
  | (refine zaf rfl ?_; simp [hb, hge2])
  | fail)
      (refine Pst.of ?_; simp)
      try simp [hb]
    ·have hlt : i < (c :: s).length := (List.getElem?_eq_some_iff.1 hx).1;have hlt2 : (i : Int) < s.length + 1 := by simp at hlt; omega
     have hd := hall a (List.mem_of_getElem? hx);simp only [zbg, Bool.and_eq_true, decide_eq_true_eq] at hd;have hv := hval i hi;have hv2 := hval (i + 1) hlt;have hsn : zbS ((c :: s).take (i + 1)) = 10 * zbS ((c :: s).take i) + ((a.toNat : Int) - 48) := by
      rw [List.take_succ, hx]; exact zex _ _
     generalize zbS ((c :: s).take i) = dv at hv hsn;have hsn2 := hsn.symm
     repeat' (first
  | (refine zaf rfl ?_; simp [hx, hlt2, hsn2])
  | (refine And.intro (by omega) ?_)
  | fail)
     refine LoopW.next ⟨i + 1, hlt⟩ (by simp at hlt; simp; omega) ?_
     exact (Wk.zem (by simp [hn, hsn] <;> grind))
   ·refine Fun.run Tryz.func181 Tryz.ntmps181 Tryz.results181 rfl (by simp) fun Γ hn => ?_
    repeat' (first
  | (refine Cnd.of (fun hc => ?_) (fun hc => ?_) <;> (try (exfalso; omega)) <;> (try simp [h1', h3', h48]))
  | (refine zaf rfl ?_; simp [h1', h3', h48])
  | (refine CallP.f2 rfl (hsp) (by first | simp [h1', h3', h48] <;> rfl | fail) ?_; simp [h1', h3', h48])
  | fail)
    refine zdh (α := { i : Nat // i <= (c :: s).length }) [0, 30] (fun i => [(4, .u (.int .i64 (zbS ((c :: s).take i.1)))), (31, .u (.int .i64 i.1))]) (fun i => (c :: s).length - i.1) ⟨0, by omega⟩ ?_ ?_
    ·exact (Wk.zem (by simp [hn, zbS] <;> grind))
    rintro ⟨i, hi⟩;simp;rcases hx : (c :: s)[i]? with _ | a
    ·have hge : (c :: s).length <= i := by simpa using hx
     obtain rfl : i = (c :: s).length := by omega
     rw [List.take_length];have hge2 : ¬ ((c :: s).length : Int) < s.length + 1 := by simp
     by_cases hb : 1099511627776 < zbS (c :: s)
     ·repeat' (first
  | (refine zaf rfl ?_; simp [hb, hge2])
  | fail)
      (refine Pst.of ?_; simp)
      try simp [hb]
     ·repeat' (first
  | (refine zaf rfl ?_; simp [hb, hge2])
  | fail)
      (refine Pst.of ?_; simp)
      try simp [hb]
    ·have hlt : i < (c :: s).length := (List.getElem?_eq_some_iff.1 hx).1;have hlt2 : (i : Int) < s.length + 1 := by simp at hlt; omega
     have hd := hall a (List.mem_of_getElem? hx);simp only [zbg, Bool.and_eq_true, decide_eq_true_eq] at hd;have hv := hval i hi;have hv2 := hval (i + 1) hlt;have hsn : zbS ((c :: s).take (i + 1)) = 10 * zbS ((c :: s).take i) + ((a.toNat : Int) - 48) := by
      rw [List.take_succ, hx]; exact zex _ _
     generalize zbS ((c :: s).take i) = dv at hv hsn;have hsn2 := hsn.symm
     repeat' (first
  | (refine zaf rfl ?_; simp [hx, hlt2, hsn2])
  | (refine And.intro (by omega) ?_)
  | fail)
     refine LoopW.next ⟨i + 1, hlt⟩ (by simp at hlt; simp; omega) ?_
     exact (Wk.zem (by simp [hn, hsn] <;> grind))
  exact hloop h2'
theorem zlR (s p : List UInt8) : Fun Tryz.prog 189 [.u (.str s), .u (.str p)] (· = .u (.bool (p.isPrefixOf s))) := by
 by_cases hl : p.length <= s.length
 ·have hl2 : (p.length : Int) <= s.length := by omega
  by_cases he : s.take p.length = p
  ·have hp : p.isPrefixOf s = true := List.isPrefixOf_iff_prefix.2 (List.prefix_iff_eq_take.2 he.symm);refine Fun.run Tryz.func189 Tryz.ntmps189 Tryz.results189 rfl (by simp) fun Γ hn => ?_
   repeat' (first
  | (refine zaf rfl ?_; simp [hl, hl2, he])
  | fail)
   all_goals
    (refine Pst.of ?_; simp)
   all_goals first | (rw [hp]; done) | exact List.isPrefixOf_iff_prefix.1 hp | (simp [hp]; done) | rfl
  ·have hp : p.isPrefixOf s = false := by
    cases h : p.isPrefixOf s with
    | false => rfl
    | true => exact absurd (List.prefix_iff_eq_take.1 (List.isPrefixOf_iff_prefix.1 h)).symm he
   refine Fun.run Tryz.func189 Tryz.ntmps189 Tryz.results189 rfl (by simp) fun Γ hn => ?_
   repeat' (first
  | (refine zaf rfl ?_; simp [hl, hl2, he])
  | fail)
   all_goals
    (refine Pst.of ?_; simp)
   all_goals first | (rw [hp]; done) | exact List.isPrefixOf_iff_prefix.1 hp | (simp [hp]; done) | rfl
 ·have hl2 : ¬ (p.length : Int) <= s.length := by omega
  have hp : p.isPrefixOf s = false := by
   cases h : p.isPrefixOf s with
   | false => rfl
   | true => exact absurd (List.isPrefixOf_iff_prefix.1 h).length_le hl
  refine Fun.run Tryz.func189 Tryz.ntmps189 Tryz.results189 rfl (by simp) fun Γ hn => ?_
  repeat' (first
  | (refine zaf rfl ?_; simp [hl, hl2])
  | fail)
  all_goals
   (refine Pst.of ?_; simp)
  all_goals first | (rw [hp]; done) | exact List.isPrefixOf_iff_prefix.1 hp | (simp [hp]; done) | rfl
theorem zny (s p : List UInt8) : Fun Tryz.prog 182 [.u (.str s), .u (.str p)] (· = .u (.bool (p.isPrefixOf s))) := by
 have h := zlR s p;refine Fun.run Tryz.func182 Tryz.ntmps182 Tryz.results182 rfl (by simp) fun Γ hn => ?_
 repeat' (first
  | (refine zaf rfl ?_; simp)
  | (refine CallP.f2 rfl (h) (by first | simp <;> rfl | fail) ?_; simp)
  | fail)
 (refine Pst.of ?_; simp)
@[local simp] theorem ztK : zl6 8 = .u (.row (signsL.map .str) 0) := by
 simp [zl6, globs, signsL, uOf]
theorem hsl : signsL.length = 11 := rfl
theorem zqJ (s : List UInt8) (hs : s ≠ []) (hl : s.length <= 1000000) : Fun Tryz.prog 167 [.u (.str s)] (· = nextD s) := by
 obtain ⟨c, r, rfl⟩ : ∃ c r, s = c :: r := by cases s with | nil => exact absurd rfl hs | cons c r => exact ⟨c, r, rfl⟩
 have h1 := zeM c;have h2 := zfw c;have h3 := zf5 (c :: r) hl 180 zdV (fun c _ => zo5 c) (by simp);have h4 := zf5 (c :: r) hl 157 zbg (fun c _ => zfw c) (by simp);have h5 := zmx ((c :: r).take (zdn zdV (c :: r)));have h6 := znH ((c :: r).take (zdn zbg (c :: r))) (by have := zep zbg (c :: r); rw [List.length_take]; omega);have l1 : (zdn zdV (c :: r) : Int) <= r.length + 1 := by have := zep zdV (c :: r); simp at this; omega
 have l2 : (zdn zbg (c :: r) : Int) <= r.length + 1 := by have := zep zbg (c :: r); simp at this; omega
 have l1' : zdn zdV (c :: r) <= r.length + 1 := by omega
 have l2' : zdn zbg (c :: r) <= r.length + 1 := by omega
 unfold nextD zil;cases c1 : zdM c with
 | true =>
  rw [c1] at h1;cases c3 : zii ((c :: r).take (zdn zdV (c :: r))) with
  | true =>
   rw [c3] at h5;refine Fun.run Tryz.func167 Tryz.ntmps167 Tryz.results167 rfl (by simp) fun Γ hn => ?_
   repeat' (first
  | (refine zaf rfl ?_; simp [l1, l1'])
  | ((first | refine CallP.f2 rfl (h1) (by first | simp [l1, l1'] <;> rfl | fail) ?_ | refine CallP.f2 rfl (h3) (by first | simp [l1, l1'] <;> rfl | fail) ?_ | refine CallP.f2 rfl (h5) (by first | simp [l1, l1'] <;> rfl | fail) ?_ | fail); simp [l1, l1'])
  | fail)
   (refine Pst.of ?_; simp)
   simp [c1, c3]
  | false =>
   rw [c3] at h5;refine Fun.run Tryz.func167 Tryz.ntmps167 Tryz.results167 rfl (by simp) fun Γ hn => ?_
   repeat' (first
  | (refine zaf rfl ?_; simp [l1, l1'])
  | ((first | refine CallP.f2 rfl (h1) (by first | simp [l1, l1'] <;> rfl | fail) ?_ | refine CallP.f2 rfl (h3) (by first | simp [l1, l1'] <;> rfl | fail) ?_ | refine CallP.f2 rfl (h5) (by first | simp [l1, l1'] <;> rfl | fail) ?_ | fail); simp [l1, l1'])
  | fail)
   (refine Pst.of ?_; simp)
   simp [c1, c3]
 | false =>
  rw [c1] at h1;cases c2 : zbg c with
  | true =>
   rw [c2] at h2;cases c3 : zgC ((c :: r).take (zdn zbg (c :: r))) with
   | none =>
    rw [c3] at h6;refine Fun.run Tryz.func167 Tryz.ntmps167 Tryz.results167 rfl (by simp) fun Γ hn => ?_
    repeat' (first
  | (refine zaf rfl ?_; simp [l2, l2'])
  | ((first | refine CallP.f2 rfl (h1) (by first | simp [l2, l2'] <;> rfl | fail) ?_ | refine CallP.f2 rfl (h2) (by first | simp [l2, l2'] <;> rfl | fail) ?_ | refine CallP.f2 rfl (h4) (by first | simp [l2, l2'] <;> rfl | fail) ?_ | refine CallP.f2 rfl (h6) (by first | simp [l2, l2'] <;> rfl | fail) ?_ | fail); simp [l2, l2'])
  | fail)
    (refine Pst.of ?_; simp)
    simp [c1, c2, c3]
   | some n =>
    rw [c3] at h6;refine Fun.run Tryz.func167 Tryz.ntmps167 Tryz.results167 rfl (by simp) fun Γ hn => ?_
    repeat' (first
  | (refine zaf rfl ?_; simp [l2, l2'])
  | ((first | refine CallP.f2 rfl (h1) (by first | simp [l2, l2'] <;> rfl | fail) ?_ | refine CallP.f2 rfl (h2) (by first | simp [l2, l2'] <;> rfl | fail) ?_ | refine CallP.f2 rfl (h4) (by first | simp [l2, l2'] <;> rfl | fail) ?_ | refine CallP.f2 rfl (h6) (by first | simp [l2, l2'] <;> rfl | fail) ?_ | fail); simp [l2, l2'])
  | fail)
    (refine Pst.of ?_; simp)
    simp [c1, c2, c3]
  | false =>
   rw [c2] at h2;refine Fun.run Tryz.func167 Tryz.ntmps167 Tryz.results167 rfl (by simp) fun Γ hn => ?_
   repeat' (first
  | (refine zaf rfl ?_; simp [hsl, List.take_of_length_le])
  | ((first | refine CallP.f2 rfl (h1) (by first | simp [hsl, List.take_of_length_le] <;> rfl | fail) ?_ | refine CallP.f2 rfl (h2) (by first | simp [hsl, List.take_of_length_le] <;> rfl | fail) ?_ | fail); simp [hsl, List.take_of_length_le])
  | fail)
   refine zdh (α := { i : Nat // i <= 11 /\ ∀ x ∈ signsL.take i, x.isPrefixOf (c :: r) = false }) [0, 2, 3, 43] (fun i => [(44, .u (.int .i64 i.1))]) (fun i => 11 - i.1) ⟨0, by omega, by simp⟩ ?_ ?_
   ·exact (Wk.zem (by simp [hn] <;> grind))
   rintro ⟨i, hi, hb⟩;simp;rcases hx : signsL[i]? with _ | x
   ·have hge : signsL.length <= i := by simpa using hx
    obtain rfl : i = 11 := by rw [hsl] at hge; omega
    have hnone : signsL.find? (fun x => x.isPrefixOf (c :: r)) = none := List.find?_eq_none.2 fun x hx => by
     rw [hb x (by rw [List.take_of_length_le (by rw [hsl]; omega)]; exact hx)]; simp
    repeat' (first
  | (refine zaf rfl ?_; simp)
  | fail)
    (refine Pst.of ?_; simp)
    simp [c1, c2, hnone]
   ·have hlt : i < 11 := by have := (List.getElem?_eq_some_iff.1 hx).1; rw [hsl] at this; exact this
    have hlt2 : (i : Int) < 11 := by omega
    have hp := zny (c :: r) x;by_cases hpx : x.isPrefixOf (c :: r) = true
    ·have hfind : signsL.find? (fun x => x.isPrefixOf (c :: r)) = some x := by
      have e : signsL = signsL.take i ++ x :: signsL.drop (i + 1) := by
       obtain ⟨h5, h6⟩ := List.getElem?_eq_some_iff.1 hx;rw [<- h6, List.getElem_cons_drop, List.take_append_drop]
      rw [e, List.find?_append, List.find?_eq_none.2 (fun y hy => by rw [hb y hy]; simp), List.find?_cons, hpx];rfl
     rw [hpx] at hp
     repeat' (first
  | (refine zaf rfl ?_; simp [hx, hsl, hlt2])
  | (refine CallP.f2 rfl (hp) (by first | simp [hx, hsl, hlt2] <;> rfl | fail) ?_; simp [hx, hsl, hlt2])
  | fail)
     (refine Pst.of ?_; simp)
     simp [c1, c2, hfind]
    ·rw [Bool.eq_false_iff.2 hpx] at hp
     repeat' (first
  | (refine zaf rfl ?_; simp [hx, hsl, hlt2])
  | (refine And.intro (by omega) ?_)
  | (refine CallP.f2 rfl (hp) (by first | simp [hx, hsl, hlt2] <;> rfl | fail) ?_; simp [hx, hsl, hlt2])
  | fail)
     refine LoopW.next ⟨i + 1, by omega, fun y hy => ?_⟩ (by simp; omega) ?_
     ·rw [List.take_succ, hx] at hy;rcases List.mem_append.1 hy with h | h
      ·exact hb y h
      ·simp at h; subst h; exact Bool.eq_false_iff.2 hpx
     ·exact (Wk.zem (by simp [hn] <;> grind))
structure By where
 kind : Int
 period : Int
 grace : Int
 wait : Int
 last : Int
 order : Int
 sld : Bool
 backs : Int
 voices : Int
 jury : Int
 fund : Int
 lets : List Let
 due : Exp
 fine : Exp
 pay : Exp
 cover : Exp
 hold : Exp
 deriving Inhabited
end Go.Proofs.YtkdhmbhbbciedaaGreatDoor
namespace Go.Proofs.YtkdhmbhbbciedaaGreatDoor
open Go Go.VL
section
attribute [local simp] za2 zcH zbP evPure opd uOf zaq St.put St.at getK binD binI binS binB nilD aggD ze4 zfg lookD lookR zbM rangeS Go.VL.nextD Go.VL.nextS zbR zfi zfh zeD zb0 mkV zaX zaE zaD zaC zcG zaA zaP za5 mapEff zdm zeo Key.kk shiftI arith unD convD zda loadD cellsAt fieldAddrD fieldD indexAddrD indexSlD arrAddr indexD sliceD cutD lenD minmaxD nilCheckD buildD fillD zbv zcI zec setAll zcA zd1 zbK zeT zbJ St.add zak zbd rowsOf zcU zcb zad zac zaa zaW zcy zaH entry zah zaj valD zbW zcu zeU zcN zcO zbC zbu zag zaM za4 delAll effD St.effS zb6 zaF zat zb7 zaG zav zbq zau zam zbr zb5 za1 zbm zaO zbl zai mkD zbi zbb zbf zag zbT D.ids Op.operands Call.operands zbc makeIfD makeFuncD typeAssertD zff zcX zcY zfb zbN IntKind.bits zcx List.take_of_length_le List.range_succ zcm zbF zcn zch zba zbw zby zci zbA zaU zbz zbx zfO zbE zck zaK zaw zcl zaL zay zbD zax zap zcq zcr zfN zab frzN frz1 zaR zaQ St.frz St.frzS frzS fv zbQ zb2 zb3 zaS zaz zan frz zcd zbU zbY zbZ za6 St.norm St.lp St.only zaY wkE wkO wkU Ob.under D.under zal zar zco zbG zcp h4s zdT zas za7 List.zipIdx_cons List.zipIdx_nil List.map_cons List.map_nil Nat.zero_add
attribute [local irreducible] V G H HD HD2 za3 Eff CallP CallV EndOK Fun Ret FinOK LoopI LoopW EndW HR vs2 RN Cnd H4
end
end Go.Proofs.YtkdhmbhbbciedaaGreatDoor
namespace Go.VL
theorem zsh {P : Program} {Γ : Ctx} {c : Code} {s : St} {Q : Exit -> St -> Prop} {x j : Nat} {cells : List U} {rows : List (List U)} (hx : getK s.env x = some (.u (.agg cells))) (hj : cells[j]? = some (.sl rows)) (h : rows.length <= 9223372036854775807 -> V P Γ c s Q) : V P Γ c s Q :=
 zp9 (fun K a w hs => by
  have hr := (hs.getK hx).2;obtain ⟨vs, hl, _, hr⟩ := zer hr;have hr := hr j _ hj;generalize vs.getD j undef = v at hr;cases hr with
  | slE => simp
  | sl _ b o sz c f hc hcx => unfold maxLen at hcx; omega) h
end Go.VL
namespace Go.Proofs.YtkdhmbhbbciedaaGreatDoor
open Go Go.VL
attribute [local simp] za2 zcH zbP evPure opd uOf zaq St.put St.at getK binD binI binS binB nilD aggD ze4 zfg lookD lookR zbM rangeS Go.VL.nextD Go.VL.nextS zbR zfi zfh zeD zb0 mkV zaX zaE zaD zaC zcG zaA zaP za5 mapEff zdm zeo Key.kk shiftI arith unD convD zda loadD cellsAt fieldAddrD fieldD indexAddrD indexSlD arrAddr indexD sliceD cutD lenD minmaxD nilCheckD buildD fillD zbv zcI zec setAll zcA zd1 zbK zeT zbJ St.add zak zbd rowsOf zcU zcb zad zac zaa zaW zcy zaH entry zah zaj valD zbW zcu zeU zcN zcO zbC zbu zag zaM za4 delAll effD St.effS zb6 zaF zat zb7 zaG zav zbq zau zam zbr zb5 za1 zbm zaO zbl zai mkD zbi zbb zbf zag zbT D.ids Op.operands Call.operands zbc makeIfD makeFuncD typeAssertD zff zcX zcY zfb zbN IntKind.bits zcx List.take_of_length_le List.range_succ zcm zbF zcn zch zba zbw zby zci zbA zaU zbz zbx zfO zbE zck zaK zaw zcl zaL zay zbD zax zap zcq zcr zfN zab frzN frz1 zaR zaQ St.frz St.frzS frzS fv zbQ zb2 zb3 zaS zaz zan frz zcd zbU zbY zbZ za6 St.norm St.lp St.only zaY wkE wkO wkU Ob.under D.under zal zar zco zbG zcp h4s zdT zas za7 List.zipIdx_cons List.zipIdx_nil List.map_cons List.map_nil Nat.zero_add
attribute [local irreducible] V G H HD HD2 za3 Eff CallP CallV EndOK Fun Ret FinOK LoopI LoopW EndW HR vs2 RN Cnd H4
def zc0 : Nat -> Exp -> Int -> Int
 | 0, _, most => most + 1
 | L + 1, e, most => if 60 < e.s.length then most + 1 else e.args.foldl (fun n x => if n <= most then n + zc0 L x (most - n) else n) 1
theorem zhK (L : Nat) (e : Exp) (most : Int) : zc0 (L + 1) e most = if 60 < e.s.length then most + 1 else e.args.foldl (fun n x => if n <= most then n + zc0 L x (most - n) else n) 1 := by rw [zc0]
theorem zfS : ∀ (L : Nat) (e : Exp) (most : Int), 0 <= most -> 1 <= zc0 L e most /\ zc0 L e most <= most + 1
 | 0, e, most, h => by rw [zc0]; omega
 | L + 1, e, most, h => by
  rw [zc0];split
  ·omega
  ·have : ∀ (l : List Exp) (n : Int), 1 <= n -> n <= most + 1 -> 1 <= l.foldl (fun n x => if n <= most then n + zc0 L x (most - n) else n) n /\ l.foldl (fun n x => if n <= most then n + zc0 L x (most - n) else n) n <= most + 1 := by
    intro l
    induction l with
    | nil => intro n h1 h2; exact ⟨h1, h2⟩
    | cons a l ih =>
     intro n h1 h2;rw [List.foldl_cons];split
     ·rename_i hn;have := zfS L a (most - n) (by omega);exact ih _ (by omega) (by omega)
     ·exact ih n h1 h2
   exact this _ 1 (by omega) (by omega)
theorem zfH {L : Nat} {most : Int} : ∀ (l : List Exp) (n : Int), ¬ n <= most -> l.foldl (fun n x => if n <= most then n + zc0 L x (most - n) else n) n = n
 | [], _, _ => rfl
 | a :: l, n, h => by rw [List.foldl_cons, if_neg h]; exact zfH l n h
theorem zkS : ∀ (L : Nat) (e : Exp) (most : Int), 0 <= most -> most <= 1000 -> (L : Int) <= 100 -> Fun Tryz.prog 58 [zcC e, .u (.int .i64 most), .u (.int .i64 L)] (· = .u (.int .i64 (zc0 L e most)))
 | 0, e, most, _, _, _ => by
  rw [zc0];refine Fun.run Tryz.func58 Tryz.ntmps58 Tryz.results58 rfl (by simp) fun Γ hn => ?_; simp only [entry, List.zipIdx_cons, List.zipIdx_nil, List.map_cons, List.map_nil, Nat.zero_add];simp only [zcC]
  repeat' (first
  | (refine zaf rfl ?_; simp)
  | (refine And.intro (by omega) ?_)
  | fail)
  (refine Pst.of ?_; simp)
 | L + 1, e, most, h0, h1, hL => by
  rw [zhK];by_cases hs : 60 < e.s.length
  ·rw [if_pos hs];refine Fun.run Tryz.func58 Tryz.ntmps58 Tryz.results58 rfl (by simp) fun Γ hn => ?_; simp only [entry, List.zipIdx_cons, List.zipIdx_nil, List.map_cons, List.map_nil, Nat.zero_add];simp only [zcC]
   repeat' (first
  | (refine Cnd.of (fun hc => ?_) (fun hc => ?_) <;> (try (exfalso; omega)) <;> (try simp))
  | (refine zaf rfl ?_; simp)
  | (refine And.intro (by omega) ?_)
  | fail)
   all_goals first
    | (exfalso; omega)
    | ((refine Pst.of ?_; simp); done)
  rw [if_neg hs];generalize hg : (e.args.foldl (fun n x => if n <= most then n + zc0 L x (most - n) else n) 1) = g;refine Fun.run Tryz.func58 Tryz.ntmps58 Tryz.results58 rfl (by simp) fun Γ hn => ?_; simp only [entry, List.zipIdx_cons, List.zipIdx_nil, List.map_cons, List.map_nil, Nat.zero_add];simp only [zcC];refine zsh (x := 0) (j := 4) rfl rfl fun hl => ?_;simp only [List.length_map] at hl
  repeat' (first
  | (refine Cnd.of (fun hc => ?_) (fun hc => ?_) <;> (try (exfalso; omega)) <;> (try simp))
  | (refine zaf rfl ?_; simp)
  | fail)
  refine zdh (α := { p : Nat × Int // p.1 <= e.args.length /\ 1 <= p.2 /\ p.2 <= most + 1 /\ g = (e.args.drop p.1).foldl (fun n x => if n <= most then n + zc0 L x (most - n) else n) p.2 }) [1, 2, 3] (fun p => [(7, .u (.int .i64 p.1.2)), (8, .u (.int .i64 p.1.1))]) (fun p => e.args.length - p.1.1) ⟨(0, 1), by simp, by simp, by simp; omega, by simp [hg]⟩ ?_ ?_
  ·exact (Wk.zem (by simp [hn] <;> grind))
  rintro ⟨⟨i, n⟩, hi, hn1, hn2, hgn⟩;simp only at hi hn1 hn2 hgn;simp;rcases hx : e.args[i]? with _ | x
  ·have hge : e.args.length <= i := by simpa using hx
   rw [List.drop_of_length_le hge] at hgn
   repeat' (first
  | (refine Cnd.of (fun hc => ?_) (fun hc => ?_) <;> (try (exfalso; omega)) <;> (try simp [hx]))
  | (refine zaf rfl ?_; simp [hx])
  | fail)
   (refine Pst.of ?_; simp)
   rw [hgn]; rfl
  ·have hlt : i < e.args.length := (List.getElem?_eq_some_iff.1 hx).1;by_cases hm : n <= most
   ·have h5 := zkS L x (most - n) (by omega) (by omega) (by omega);have hb := zfS L x (most - n) (by omega);simp only [zcC] at h5;rw [List.drop_eq_getElem_cons hlt, List.foldl_cons, if_pos hm, (List.getElem?_eq_some_iff.1 hx).2] at hgn;generalize zc0 L x (most - n) = y at h5 hb hgn
    repeat' (first
  | (refine Cnd.of (fun hc => ?_) (fun hc => ?_) <;> (try (exfalso; omega)) <;> (try simp [hx, x.row_eq]))
  | (refine zaf rfl ?_; simp [hx, x.row_eq])
  | (refine And.intro (by omega) ?_)
  | (refine CallP.f2 rfl (h5) (by first | simp [hx, x.row_eq] <;> rfl | fail) ?_; simp [hx, x.row_eq])
  | fail)
    refine LoopW.next ⟨(i + 1, n + y), (by omega : i + 1 <= e.args.length), (by omega : 1 <= n + y), (by omega : n + y <= most + 1), hgn⟩ (by simp; omega) ?_
    exact (Wk.zem (by simp [hn] <;> grind))
   ·rw [zfH _ _ hm] at hgn
    repeat' (first
  | (refine Cnd.of (fun hc => ?_) (fun hc => ?_) <;> (try (exfalso; omega)) <;> (try simp [hx]))
  | (refine zaf rfl ?_; simp [hx])
  | fail)
    (refine Pst.of ?_; simp)
    rw [hgn]
def zpA (e : Exp) (n : Int) : Bool := decide (zc0 16 e n <= n)
theorem zfI (e : Exp) (n : Int) (h0 : 0 <= n) (h1 : n <= 1000) : Fun Tryz.prog 26 [zcC e, .u (.int .i64 n)] (· = .u (.bool (zpA e n))) := by
 have h2 := zkS 16 e n h0 h1 (by omega);unfold zpA;simp only [zcC] at h2 ⊢;generalize zc0 16 e n = y at h2 ⊢;refine Fun.run Tryz.func26 Tryz.ntmps26 Tryz.results26 rfl (by simp) fun Γ hn => ?_
 repeat' (first
  | (refine zaf rfl ?_; simp)
  | (refine CallP.f2 rfl (h2) (by first | simp <;> rfl | fail) ?_; simp)
  | fail)
 (refine Pst.of ?_; simp)
mutual
def zeK : Exp -> Int
 | .mk op _ _ _ args => (if op = 1 then 1 else 0) + zcz args
def zcz : List Exp -> Int
 | [] => 0
 | e :: r => zeK e + zcz r
end
theorem zkT (e : Exp) : zeK e = (if e.op = 1 then 1 else 0) + zcz e.args := by cases e with | mk op n u s args => rw [zeK]; rfl
mutual
theorem zeZ : ∀ e : Exp, 0 <= zeK e
 | .mk op n u s args => by
  rw [zeK];have := zds args;split <;> omega
theorem zds : ∀ l : List Exp, 0 <= zcz l
 | [] => by rw [zcz]; omega
 | e :: r => by
  rw [zcz];have := zeZ e;have := zds r;omega
end
theorem znK {l : List Exp} {i : Nat} {x : Exp} (h : l[i]? = some x) : zcz (l.take (i + 1)) = zcz (l.take i) + zeK x := by
 induction l generalizing i with
 | nil => simp at h
 | cons a l ih =>
  cases i with
  | zero => simp at h; subst h; simp [zcz]
  | succ i => rw [List.take_succ_cons, List.take_succ_cons, zcz, zcz, ih (i := i) (by simpa using h)]; omega
theorem znJ {l : List Exp} (i : Nat) : zcz (l.take i) <= zcz l := by
 induction l generalizing i with
 | nil => simp
 | cons a l ih =>
  cases i with
  | zero => rw [List.take_zero]; have := zds (a :: l); rw [show zcz [] = 0 by rw [zcz]]; exact this
  | succ i => rw [List.take_succ_cons, zcz, zcz]; have := ih i; omega
theorem zlc : ∀ (L : Nat) (e : Exp) (most : Int), 0 <= most -> zc0 L e most <= most -> zeK e <= zc0 L e most
 | 0, e, most, _, h => by rw [zc0] at h; omega
 | L + 1, e, most, h0, h => by
  rw [zhK] at h ⊢;by_cases hs : 60 < e.s.length
  ·rw [if_pos hs] at h; omega
  rw [if_neg hs] at h ⊢;have key : ∀ (l : List Exp) (n : Int), 1 <= n -> l.foldl (fun n x => if n <= most then n + zc0 L x (most - n) else n) n <= most -> n + zcz l <= l.foldl (fun n x => if n <= most then n + zc0 L x (most - n) else n) n := by
   intro l
   induction l with
   | nil => intro n _ _; rw [zcz]; simp
   | cons a l ih =>
    intro n h1 h2;rw [List.foldl_cons] at h2 ⊢;by_cases hn : n <= most
    ·rw [if_pos hn] at h2 ⊢;have hb := zfS L a (most - n) (by omega);have h3 := ih _ (by omega) h2;have h4 : n + zc0 L a (most - n) <= most := by
      rcases Int.lt_or_le most (n + zc0 L a (most - n)) with h5 | h5
      ·rw [zfH _ _ (by omega)] at h2; omega
      ·exact h5
     have h5 := zlc L a (most - n) (by omega) (by omega);rw [zcz];omega
    ·rw [if_neg hn, zfH _ _ hn] at h2; omega
  have h1 := key e.args 1 (by omega) h;rw [zkT];by_cases h3 : e.op = 1
  ·rw [if_pos h3]; omega
  ·rw [if_neg h3]; omega
theorem ziI : ∀ (m : Nat) (e : Exp), SizeOf.sizeOf e <= m -> zeK e <= 1000000 -> Fun Tryz.prog 62 [zcC e] (· = .u (.int .i64 (zeK e)))
 | 0, e, hm, _ => by cases e; simp at hm
 | m + 1, e, hm, hN => by
  have hch : ∀ x ∈ e.args, SizeOf.sizeOf x <= m := fun x hx => by
   cases e with
   | mk op n u s args =>
    have h1 := List.sizeOf_lt_of_mem (show x ∈ args from hx);simp at hm;omega
  rw [zkT] at hN ⊢;have hnn := zds e.args;generalize hk : (if e.op = 1 then (1 : Int) else 0) = k0 at hN ⊢;have hk01 : 0 <= k0 /\ k0 <= 1 := by rw [<- hk]; split <;> omega
  refine Fun.run Tryz.func62 Tryz.ntmps62 Tryz.results62 rfl (by simp) fun Γ hn => ?_; simp only [entry, List.zipIdx_cons, List.zipIdx_nil, List.map_cons, List.map_nil, Nat.zero_add];simp only [zcC];refine zsh (x := 0) (j := 4) rfl rfl fun hl => ?_;simp only [List.length_map] at hl
  repeat' (first
  | (refine Cnd.of (fun hc => ?_) (fun hc => ?_) <;> (try (exfalso; omega)) <;> (try simp))
  | (refine zaf rfl ?_; simp)
  | fail)
  all_goals
   refine zdh (α := { i : Nat // i <= e.args.length }) [1] (fun i => [(3, .u (.int .i64 (k0 + zcz (e.args.take i.1)))), (4, .u (.int .i64 i.1))]) (fun i => e.args.length - i.1) ⟨0, by omega⟩ ?_ ?_
   ·exact (Wk.zem (by simp [hn, zcz] <;> grind))
   rintro ⟨i, hi⟩;simp;rcases hx : e.args[i]? with _ | x
   ·have hge : e.args.length <= i := by simpa using hx
    obtain rfl : i = e.args.length := by omega
    repeat' (first
  | (refine zaf rfl ?_; simp [hx])
  | fail)
    (refine Pst.of ?_; simp)
   ·have hlt : i < e.args.length := (List.getElem?_eq_some_iff.1 hx).1;have hat := znK hx;have hle := znJ (l := e.args) (i + 1);have hn0 := zds (e.args.take i);have hnx := zeZ x;have h5 := ziI m x (hch x (List.mem_of_getElem? hx)) (by omega);simp only [zcC] at h5
    repeat' (first
  | (refine Cnd.of (fun hc => ?_) (fun hc => ?_) <;> (try (exfalso; omega)) <;> (try simp [hx, x.row_eq]))
  | (refine zaf rfl ?_; simp [hx, x.row_eq])
  | (refine And.intro (by omega) ?_)
  | (refine CallP.f2 rfl (h5) (by first | simp [hx, x.row_eq] <;> rfl | fail) ?_; simp [hx, x.row_eq])
  | fail)
    all_goals
     refine LoopW.next ⟨i + 1, by omega⟩ (by simp; omega) ?_
     exact (Wk.zem (by simp [hn, hat, Int.add_assoc] <;> grind))
end Go.Proofs.YtkdhmbhbbciedaaGreatDoor
namespace Go.Proofs.YtkdhmbhbbciedaaGreatDoor
open Go Go.VL
attribute [local simp] za2 zcH zbP evPure opd uOf zaq St.put St.at getK binD binI binS binB nilD aggD ze4 zfg lookD lookR zbM rangeS Go.VL.nextD Go.VL.nextS zbR zfi zfh zeD zb0 mkV zaX zaE zaD zaC zcG zaA zaP za5 mapEff zdm zeo Key.kk shiftI arith unD convD zda loadD cellsAt fieldAddrD fieldD indexAddrD indexSlD arrAddr indexD sliceD cutD lenD minmaxD nilCheckD buildD fillD zbv zcI zec setAll zcA zd1 zbK zeT zbJ St.add zak zbd rowsOf zcU zcb zad zac zaa zaW zcy zaH entry zah zaj valD zbW zcu zeU zcN zcO zbC zbu zag zaM za4 delAll effD St.effS zb6 zaF zat zb7 zaG zav zbq zau zam zbr zb5 za1 zbm zaO zbl zai mkD zbi zbb zbf zag zbT D.ids Op.operands Call.operands zbc makeIfD makeFuncD typeAssertD zff zcX zcY zfb zbN IntKind.bits zcx List.take_of_length_le List.range_succ zcm zbF zcn zch zba zbw zby zci zbA zaU zbz zbx zfO zbE zck zaK zaw zcl zaL zay zbD zax zap zcq zcr zfN zab frzN frz1 zaR zaQ St.frz St.frzS frzS fv zbQ zb2 zb3 zaS zaz zan frz zcd zbU zbY zbZ za6 St.norm St.lp St.only zaY wkE wkO wkU Ob.under D.under zal zar zco zbG zcp h4s zdT zas za7 List.zipIdx_cons List.zipIdx_nil List.map_cons List.map_nil Nat.zero_add
attribute [local irreducible] V G H HD HD2 za3 Eff CallP CallV EndOK Fun Ret FinOK LoopI LoopW EndW HR vs2 RN Cnd H4
def zn5 (n m : Int) : List Let -> Int -> Int -> Bool
 | [], _, _ => true
 | l :: r, i, p => if i <= m then (if 60 < l.name.length \/ zpA l.body n = false then false else if 2000 < p * (1 + zeK l.body) then false else zn5 n m r (i + 1) (p * (1 + zeK l.body))) else true
def zt6 (l : List Let) (m n : Int) : Bool := zn5 n m l 0 1 && decide ((l.length : Int) <= m)
theorem zl9 (l : List Let) (m n : Int) (h0 : 0 <= n) (h1 : n <= 1000) (h2 : 0 <= m) (h3 : m <= 1000) : Fun Tryz.prog 29 [.u (zaB l), .u (.int .i64 m), .u (.int .i64 n)] (· = .u (.bool (zt6 l m n))) := by
 unfold zt6;generalize hB : zn5 n m l 0 1 = B;refine Fun.run Tryz.func29 Tryz.ntmps29 Tryz.results29 rfl (by simp) fun Γ hn => ?_; simp only [entry, List.zipIdx_cons, List.zipIdx_nil, List.map_cons, List.map_nil, Nat.zero_add];simp only [zaB];refine zie (x := 0) rfl fun hl => ?_;simp only [List.length_map] at hl
 repeat' (first
  | (refine zaf rfl ?_; simp)
  | fail)
 refine zdh (α := { q : Nat × Int // q.1 <= l.length /\ (q.1 : Int) <= m + 1 /\ 1 <= q.2 /\ q.2 <= 2000 /\ B = zn5 n m (l.drop q.1) q.1 q.2 }) [0, 1, 2] (fun q => [(7, .u (.int .i64 q.1.2)), (8, .u (.int .i64 q.1.1))]) (fun q => l.length - q.1.1) ⟨(0, 1), by simp, by simp; omega, by simp, by simp, by simp [hB]⟩ ?_ ?_
 ·exact (Wk.env rfl rfl rfl (by simp [wkE, St.lp, zaY, zaa, getK] <;> (try (intros; simp_all; done)) <;> (try (intros; omega)) <;> (try grind)))
 rintro ⟨⟨i, p⟩, hi, him, hp1, hp2, hb⟩;simp only at hi him hp1 hp2 hb;simp;rcases hx : l[i]? with _ | x
 ·have hge : l.length <= i := by simpa using hx
  obtain rfl : i = l.length := by omega
  rw [List.drop_length, zn5] at hb
  repeat' (first
  | (refine zaf rfl ?_; simp [hx])
  | fail)
  all_goals
   (refine Pst.of ?_; simp)
  all_goals simp [hb]
 ·have hlt : i < l.length := (List.getElem?_eq_some_iff.1 hx).1;rw [List.drop_eq_getElem_cons hlt, (List.getElem?_eq_some_iff.1 hx).2, zn5] at hb;by_cases hm : (i : Int) <= m
  ·rw [if_pos hm] at hb;have h5 := zfI x.body n h0 h1;simp only [zcC] at h5;by_cases hn60 : 60 < x.name.length
   ·rw [if_pos (.inl hn60)] at hb;cases hf : zpA x.body n
    all_goals
     rw [hf] at h5
     repeat' (first
  | (refine Cnd.of (fun hc => ?_) (fun hc => ?_) <;> (try (exfalso; omega)) <;> (try simp [hx, hm]))
  | (refine zaf rfl ?_; simp [hx, hm])
  | fail)
     all_goals first
      | (exfalso; omega)
      | ((refine Pst.of ?_; simp); simp [hb]; done)
   ·cases hf : zpA x.body n with
    | false =>
     rw [if_pos (.inr hf)] at hb;rw [hf] at h5
     repeat' (first
  | (refine Cnd.of (fun hc => ?_) (fun hc => ?_) <;> (try (exfalso; omega)) <;> (try simp [hx, hm]))
  | (refine zaf rfl ?_; simp [hx, hm])
  | (refine CallP.f2 rfl (h5) (by first | simp [hx, hm] <;> rfl | fail) ?_; simp [hx, hm])
  | fail)
     all_goals first
      | (exfalso; omega)
      | ((refine Pst.of ?_; simp); simp [hb]; done)
    | true =>
     rw [if_neg (by simp [hn60, hf])] at hb;rw [hf] at h5;have hfn : zeK x.body <= 1000 := by
      unfold zpA at hf;simp only [decide_eq_true_eq] at hf;have := zlc 16 x.body n h0 hf;omega
     have hnn := zeZ x.body;have h6 := ziI _ x.body (Nat.le_refl _) (by omega);simp only [zcC] at h6;generalize zeK x.body = y at h6 hb hfn hnn;have hpy : p * (1 + y) <= 2000 * 1001 := Int.mul_le_mul hp2 (by omega) (by omega) (by omega);have hpy1 : 1 <= p * (1 + y) := by
      have := Int.mul_le_mul hp1 (show (1 : Int) <= 1 + y by omega) (by omega) (by omega);omega
     repeat' (first
  | (refine Cnd.of (fun hc => ?_) (fun hc => ?_) <;> (try (exfalso; omega)) <;> (try simp [hx, hm]))
  | (refine zaf rfl ?_; simp [hx, hm])
  | (refine And.intro (by omega) ?_)
  | ((first | refine CallP.f2 rfl (h5) (by first | simp [hx, hm] <;> rfl | fail) ?_ | refine CallP.f2 rfl (h6) (by first | simp [hx, hm] <;> rfl | fail) ?_ | fail); simp [hx, hm])
  | fail)
     all_goals first
      | (exfalso; omega)
      | ((refine Pst.of ?_; simp); rw [if_pos (by omega)] at hb; simp [hb]; done)
      | (refine LoopW.next ⟨(i + 1, p * (1 + y)), (by omega : i + 1 <= l.length), (by simp; omega), hpy1, (by omega : p * (1 + y) <= 2000), by rw [if_neg (by omega)] at hb; simpa using hb⟩ (by simp; omega) ?_; exact (Wk.env rfl rfl rfl (by simp [wkE, St.lp, zaY, zaa, getK] <;> (try (intros; simp_all; done)) <;> (try (intros; omega)) <;> (try grind))))
  ·rw [if_neg hm] at hb
   repeat' (first
  | (refine Cnd.of (fun hc => ?_) (fun hc => ?_) <;> (try (exfalso; omega)) <;> (try simp [hx, hm]))
  | (refine zaf rfl ?_; simp [hx, hm])
  | fail)
   (refine Pst.of ?_; simp)
   simp [hb]
theorem zeI {lets : List Let} {e : Exp} (h : zbh lets e = true) : lets.length <= 20 /\ za0 12 e = true /\ ∀ l ∈ lets, za0 12 l.body = true := by
 simp only [zbh, Bool.and_eq_true, decide_eq_true_eq, Bool.not_eq_true', List.any_eq_false] at h;exact ⟨h.1.1, h.1.2, fun l hl => by simpa using h.2 l hl⟩
end Go.Proofs.YtkdhmbhbbciedaaGreatDoor
namespace Go.Proofs.YtkdhmbhbbciedaaGreatDoor
open Go Go.VL
section
attribute [local simp] za2 zcH zbP evPure opd uOf zaq St.put St.at getK binD binI binS binB nilD aggD ze4 zfg lookD lookR zbM rangeS Go.VL.nextD Go.VL.nextS zbR zfi zfh zeD zb0 mkV zaX zaE zaD zaC zcG zaA zaP za5 mapEff zdm zeo Key.kk shiftI arith unD convD zda loadD cellsAt fieldAddrD fieldD indexAddrD indexSlD arrAddr indexD sliceD cutD lenD minmaxD nilCheckD buildD fillD zbv zcI zec setAll zcA zd1 zbK zeT zbJ St.add zak zbd rowsOf zcU zcb zad zac zaa zaW zcy zaH entry zah zaj valD zbW zcu zeU zcN zcO zbC zbu zag zaM za4 delAll effD St.effS zb6 zaF zat zb7 zaG zav zbq zau zam zbr zb5 za1 zbm zaO zbl zai mkD zbi zbb zbf zag zbT D.ids Op.operands Call.operands zbc makeIfD makeFuncD typeAssertD zff zcX zcY zfb zbN IntKind.bits zcx List.take_of_length_le List.range_succ zcm zbF zcn zch zba zbw zby zci zbA zaU zbz zbx zfO zbE zck zaK zaw zcl zaL zay zbD zax zap zcq zcr zfN zab frzN frz1 zaR zaQ St.frz St.frzS frzS fv zbQ zb2 zb3 zaS zaz zan frz zcd zbU zbY zbZ za6 St.norm St.lp St.only zaY wkE wkO wkU Ob.under D.under zal zar zco zbG zcp h4s zdT zas za7 List.zipIdx_cons List.zipIdx_nil List.map_cons List.map_nil Nat.zero_add
attribute [local irreducible] V G H HD HD2 za3 Eff CallP CallV EndOK Fun Ret FinOK LoopI LoopW EndW HR vs2 RN Cnd H4
theorem zrB (lets : List Let) (e : Exp) : Fun Tryz.prog 10 [.u (zaB lets), zcC e] (· = .u (.bool (zt6 lets 4 30 && zpA e 30))) := by
 have h1 := zl9 lets 4 30 (by omega) (by omega) (by omega) (by omega);have h2 := zfI e 30 (by omega) (by omega);generalize zt6 lets 4 30 = x at *;generalize zpA e 30 = y at *;simp only [zaB, zcC] at h1 h2 ⊢;cases x <;> cases y
 all_goals
  refine Fun.run Tryz.func10 Tryz.ntmps10 Tryz.results10 rfl (by simp) fun Γ hn => ?_
  repeat' (first
  | (refine zaf rfl ?_; simp)
  | ((first | refine CallP.f2 rfl (h1) (by first | simp <;> rfl | fail) ?_ | refine CallP.f2 rfl (h2) (by first | simp <;> rfl | fail) ?_ | fail); simp)
  | fail)
  (refine Pst.of ?_; simp)
end
end Go.Proofs.YtkdhmbhbbciedaaGreatDoor
namespace Go.Proofs.YtkdhmbhbbciedaaGreatDoor
open Go Go.VL
def zd5 (lets : List Let) (e : Exp) : Bool := zbh lets e && zcv (sF (mOf [] lets)) e
abbrev Tab := List (Int × Int × Bool)
def zjG (n : Int) : Except Int Int := if 1099511627776 < n \/ n < -1099511627776 then .error 3 else .ok n
def zk8 (a b : Int) : Int := if a.tdiv b * b ≠ a /\ ¬ (a < 0 ↔ b < 0) then a.tdiv b - 1 else a.tdiv b
def zsx (a b c : Int) : Except Int Int :=
 if a ≠ 0 /\ ((1099511627777 * c).tdiv (max a (-a)) < b \/ b < (-(1099511627777 * c)).tdiv (max a (-a))) then .error 3 else zjG (zk8 (a * b) c)
def zdp (b : Bool) : Int := if b = true then 1 else 0
def zlG (op : Int) (sh : Bool) (a b : Int) : Except Int Int :=
 if op = 2 then zjG (a + b) else if op = 3 then zjG (a - b) else if op = 4 then zsx a b (if sh = true then 1000 else 1)
 else if op = 5 then (if b = 0 then .error 15 else zjG (zk8 a b))
 else if op = 6 then .ok (min a b) else if op = 7 then .ok (max a b) else if op = 8 then .ok (zdp (decide (a < b))) else .ok (zdp (decide (a = b)))
abbrev TM := Tab -> Except Int Int × Tab
def TM.bind (f : TM) (g : Int -> TM) : TM := fun t => match f t with | (.ok v, t') => g v t' | (.error e, t') => (.error e, t')
def TM.ret (x : Except Int Int) : TM := fun t => (x, t)
theorem TM.bind_ok {f : TM} {g : Int -> TM} {t t' : Tab} {v : Int} (h : f t = (.ok v, t')) : f.bind g t = g v t' := by unfold TM.bind; rw [h]
mutual
def zuE (nm : List UInt8 -> TM) (sh : Exp -> Bool) : Exp -> TM
 | .mk op n _ s args =>
  if op = 0 then .ret (zjG n)
  else if op = 1 then nm s
  else if op = 10 then (zoC nm sh args 0).bind fun a => if a = 0 then .ret (.ok 0) else (zoC nm sh args 1).bind fun b => .ret (.ok (zdp (decide (b ≠ 0))))
  else if op = 11 then (zoC nm sh args 0).bind fun a => if a ≠ 0 then .ret (.ok 1) else (zoC nm sh args 1).bind fun b => .ret (.ok (zdp (decide (b ≠ 0))))
  else if op = 12 then (zoC nm sh args 0).bind fun a => .ret (.ok (zdp (decide (a = 0))))
  else if op = 13 then (zoC nm sh args 0).bind fun a => if a ≠ 0 then zoC nm sh args 1 else zoC nm sh args 2
  else (zoC nm sh args 0).bind fun a => (zoC nm sh args 1).bind fun b => .ret (zlG op ((args.take 2).any sh) a b)
def zoC (nm : List UInt8 -> TM) (sh : Exp -> Bool) : List Exp -> Nat -> TM
 | [], _ => .ret (.error 0)
 | e :: _, 0 => zuE nm sh e
 | _ :: r, i + 1 => zoC nm sh r i
end
def zyR : Except Int Int -> Int × Int × Bool
 | .ok v => (v, 0, true)
 | .error e => (0, e, true)
def inC (v : Int) : Prop := -1099511627776 <= v /\ v <= 1099511627776
theorem zhw (b : Bool) : inC (zdp b) := by unfold inC zdp; split <;> omega
structure TabOK (L : Nat) (t : Tab) : Prop where
 len : t.length = L
 small : ∀ (i : Nat) (v e : Int) (d : Bool), t[i]? = some (v, e, d) -> inC v
def TMok (L : Nat) (f : TM) : Prop := ∀ t, TabOK L t -> TabOK L (f t).2 /\ (∀ v, (f t).1 = .ok v -> inC v) /\ (∀ e, (f t).1 = .error e -> e ≠ 0)
theorem TMok.bind {L f g} (hf : TMok L f) (hg : ∀ a, inC a -> TMok L (g a)) : TMok L (TM.bind f g) := fun t ht => by
 obtain ⟨h1, h2, h3⟩ := hf t ht;unfold TM.bind;rcases hft : f t with ⟨r | v, t'⟩
 ·rw [hft] at h1 h3;refine ⟨h1, ?_, ?_⟩
  ·intro v h; cases h
  ·intro e h; exact h3 e h
 ·rw [hft] at h1 h2;exact hg v (h2 v rfl) t' h1
theorem TMok.ret {L} {x : Except Int Int} (h : ∀ v, x = .ok v -> inC v) (he : ∀ e, x = .error e -> e ≠ 0) : TMok L (TM.ret x) := fun t ht => ⟨ht, h, he⟩
theorem TMok.ok {L} {v : Int} (h : inC v) : TMok L (TM.ret (.ok v)) := .ret (fun w hw => by cases hw; exact h) (fun e he => by cases he)
end Go.Proofs.YtkdhmbhbbciedaaGreatDoor
namespace Go.Proofs.YtkdhmbhbbciedaaGreatDoor
open Go Go.VL
def TM.Pure (f : TM) : Prop := ∀ t, f t = ((f []).1, t)
theorem TM.Pure.ret (x) : TM.Pure (TM.ret x) := fun t => rfl
theorem TM.Pure.bind {f : TM} {g : Int -> TM} (hf : f.Pure) (hg : ∀ a, (g a).Pure) : (f.bind g).Pure := fun t => by
 unfold TM.bind;rw [hf t, hf []];rcases (f []).1 with e | v
 ·rfl
 ·exact hg v t
def nmP (lets : List Let) (G : List UInt8 -> Option Int) : Nat -> List UInt8 -> TM
 | 0, s => .ret (match G s with | some v => .ok v | none => .error 13)
 | n + 1, s => match G s with
  | some v => .ret (.ok v)
  | none => match lets[n]? with
   | none => .ret (.error 13)
   | some l => if l.name = s then .ret (zuE (nmP lets G n) (zd5 (lets.take n)) l.body []).1 else nmP lets G n s
def zwe (lets : List Let) (G : List UInt8 -> Option Int) (n : Nat) (e : Exp) : Except Int Int := (zuE (nmP lets G n) (zd5 (lets.take n)) e []).1
def zvH (lets : List Let) (G : List UInt8 -> Option Int) (t : Tab) : Prop := ∀ (i : Nat) (v e : Int), t[i]? = some (v, e, true) -> ∃ l, lets[i]? = some l /\ (v, e, true) = zyR (zwe lets G i l.body)
def Sm (lets : List Let) (G : List UInt8 -> Option Int) (f f' : TM) : Prop := ∀ t, TabOK lets.length t -> zvH lets G t -> (f t).1 = (f' []).1 /\ zvH lets G (f t).2
theorem Sm.ret {lets G x} : Sm lets G (TM.ret x) (TM.ret x) := fun t _ h => ⟨rfl, h⟩
theorem Sm.bind {lets G} {f f' : TM} {g g' : Int -> TM} (hf : Sm lets G f f') (hk : TMok lets.length f) (hp : f'.Pure) (hg : ∀ a, Sm lets G (g a) (g' a)) : Sm lets G (f.bind g) (f'.bind g') := fun t h1 h2 => by
 obtain ⟨e1, v1⟩ := hf t h1 h2;obtain ⟨k1, _, _⟩ := hk t h1;unfold TM.bind;rcases hft : f t with ⟨er | v, t'⟩
 ·rw [hft] at e1 v1;simp only at e1 v1;rw [hp [], <- e1];exact ⟨rfl, v1⟩
 ·rw [hft] at e1 v1 k1;simp only at e1 v1 k1;rw [hp [], <- e1];exact hg v t' k1 v1
end Go.Proofs.YtkdhmbhbbciedaaGreatDoor
namespace Go.Proofs.YtkdhmbhbbciedaaGreatDoor
open Go Go.VL
end Go.Proofs.YtkdhmbhbbciedaaGreatDoor
namespace Go.Proofs.YtkdhmbhbbciedaaGreatDoor
open Go Go.VL
end Go.Proofs.YtkdhmbhbbciedaaGreatDoor
namespace Go.Proofs.YtkdhmbhbbciedaaGreatDoor
open Go Go.VL
abbrev Ins := Vm.Ins
abbrev Code := List Ins
def zb4 (c : Code) (i : Ins) : Code := if c.length <= 2000 then c ++ [i] else c
def zdK (c : Code) (j : Nat) : Code := match c[j]? with | some x => c.set j { x with a := c.length } | none => c
def zdq (c : Code) : Code := zb4 (zb4 c ⟨11, 0, []⟩) ⟨11, 0, []⟩
def zbI (A B D : Code -> Code) (c : Code) : Code :=
 zdK (D (zdK (zb4 (B (zb4 (A c) ⟨13, 0, []⟩)) ⟨12, 0, []⟩) ((zb4 (A c) ⟨13, 0, []⟩).length - 1))) ((zb4 (B (zb4 (A c) ⟨13, 0, []⟩)) ⟨12, 0, []⟩).length - 1)
def zaT (sh : Exp -> Bool) (op : Int) (args : List Exp) : Int :=
 if op = 2 then 2 else if op = 3 then 3 else if op = 5 then 5 else if op = 6 then 7 else if op = 7 then 8 else if op = 8 then 9 else if op = 9 then 10 else if op = 12 then 11
 else if (args.take 2).any sh = true then 6 else 4
mutual
def zev (nm : List UInt8 -> Code -> Code) (sh : Exp -> Bool) : Exp -> Code -> Code
 | .mk op n _ s args => fun c =>
  if 2000 < c.length then c
  else if op = 0 then zb4 c ⟨0, n, []⟩
  else if op = 1 then nm s c
  else if op = 10 then zbI (zf1 nm sh args 0) (fun c => zdq (zf1 nm sh args 1 c)) (fun c => zb4 c ⟨0, 0, []⟩) c
  else if op = 11 then zbI (zf1 nm sh args 0) (fun c => zb4 c ⟨0, 1, []⟩) (fun c => zdq (zf1 nm sh args 1 c)) c
  else if op = 13 then zbI (zf1 nm sh args 0) (zf1 nm sh args 1) (zf1 nm sh args 2) c
  else zb4 (zfF nm sh args c) ⟨zaT sh op args, 0, []⟩
def zf1 (nm : List UInt8 -> Code -> Code) (sh : Exp -> Bool) : List Exp -> Nat -> Code -> Code
 | [], _ => fun c => c
 | e :: _, 0 => zev nm sh e
 | _ :: r, i + 1 => zf1 nm sh r i
def zfF (nm : List UInt8 -> Code -> Code) (sh : Exp -> Bool) : List Exp -> Code -> Code
 | [] => fun c => c
 | e :: r => fun c => zfF nm sh r (zev nm sh e c)
end
theorem zd4 (nm sh) (e : Exp) (c : Code) : zev nm sh e c = if 2000 < c.length then c
  else if e.op = 0 then zb4 c ⟨0, e.n, []⟩
  else if e.op = 1 then nm e.s c
  else if e.op = 10 then zbI (zf1 nm sh e.args 0) (fun c => zdq (zf1 nm sh e.args 1 c)) (fun c => zb4 c ⟨0, 0, []⟩) c
  else if e.op = 11 then zbI (zf1 nm sh e.args 0) (fun c => zb4 c ⟨0, 1, []⟩) (fun c => zdq (zf1 nm sh e.args 1 c)) c
  else if e.op = 13 then zbI (zf1 nm sh e.args 0) (zf1 nm sh e.args 1) (zf1 nm sh e.args 2) c
  else zb4 (zfF nm sh e.args c) ⟨zaT sh e.op e.args, 0, []⟩ := by
 cases e with | mk op n u s args => rw [zev]; rfl
def nmC (lets : List Let) (sh : Nat -> Exp -> Bool) : Nat -> List UInt8 -> Code -> Code
 | 0, s => fun c => zb4 c ⟨1, 0, s⟩
 | n + 1, s => match lets[n]? with
  | none => fun c => zb4 c ⟨1, 0, s⟩
  | some l => if l.name = s then zev (nmC lets sh n) (sh n) l.body else nmC lets sh n s
def Pre (F : Code -> Code) : Prop := ∀ c : Code, c.length <= (F c).length /\ ∀ i, i < c.length -> (F c)[i]? = c[i]?
theorem Pre.id : Pre fun c => c := fun c => ⟨Nat.le_refl _, fun _ _ => rfl⟩
theorem zcK (x : Ins) (c : Code) : c.length <= (zb4 c x).length /\ ∀ i, i < c.length -> (zb4 c x)[i]? = c[i]? := by
 unfold zb4;split
 ·exact ⟨by simp, fun i hi => by rw [List.getElem?_append_left hi]⟩
 ·exact ⟨Nat.le_refl _, fun _ _ => rfl⟩
theorem Pre.put (x : Ins) : Pre fun c => zb4 c x := fun c => zcK x c
theorem Pre.comp {F G : Code -> Code} (hF : Pre F) (hG : Pre G) : Pre fun c => G (F c) := fun c => by
 obtain ⟨h1, h2⟩ := hF c;obtain ⟨h3, h4⟩ := hG (F c);exact ⟨Nat.le_trans h1 h3, fun i hi => (h4 i (by omega)).trans (h2 i hi)⟩
theorem zbO (c : Code) (j : Nat) : (zdK c j).length = c.length := by
 unfold zdK;split <;> simp
theorem zc6 (c : Code) (j i : Nat) (h : i ≠ j) : (zdK c j)[i]? = c[i]? := by
 unfold zdK;split
 ·rw [List.getElem?_set]; simp [Ne.symm h]
 ·rfl
theorem zhe {c : Code} {j : Nat} {x : Ins} (h : c[j]? = some x) : (zdK c j)[j]? = some { x with a := c.length } := by
 unfold zdK;rw [h];have := (List.getElem?_eq_some_iff.1 h).1;simp [this]
theorem zfz (c : Code) (x : Ins) : (zb4 c x).length = if c.length <= 2000 then c.length + 1 else c.length := by
 unfold zb4; split <;> simp
theorem zet (c : Code) (x : Ins) : 0 < (zb4 c x).length := by rw [zfz]; split <;> omega
theorem Pre.choice {A B D : Code -> Code} (hA : Pre A) (hB : Pre B) (hD : Pre D) (c : Code) (hc2 : c.length <= 2000) : c.length <= (zbI A B D c).length /\ ∀ i, i < c.length -> (zbI A B D c)[i]? = c[i]? := by
 unfold zbI;obtain ⟨a1, a2⟩ := hA c;obtain ⟨p1, p2⟩ := zcK ⟨13, 0, []⟩ (A c);have k1 := zfz (A c) ⟨13, 0, []⟩;generalize zb4 (A c) ⟨13, 0, []⟩ = c2 at *;obtain ⟨b1, b2⟩ := hB c2;obtain ⟨q1, q2⟩ := zcK ⟨12, 0, []⟩ (B c2);have k2 := zfz (B c2) ⟨12, 0, []⟩;generalize zb4 (B c2) ⟨12, 0, []⟩ = c4 at *;obtain ⟨d1, d2⟩ := hD (zdK c4 (c2.length - 1));rw [zbO] at d1 d2;rw [zbO];have k3 : c.length <= c2.length - 1 := by split at k1 <;> omega
 have k4 : c.length <= c4.length - 1 := by split at k2 <;> split at k1 <;> omega
 refine ⟨by omega, fun i hi => ?_⟩;rw [zc6 _ _ _ (by omega), d2 i (by omega), zc6 _ _ _ (by omega), q2 i (by omega), b2 i (by omega), p2 i (by omega), a2 i hi]
theorem Pre.truth : Pre zdq := (Pre.put _).comp (Pre.put _)
mutual
theorem zgf {nm : List UInt8 -> Code -> Code} {sh : Exp -> Bool} (hn : ∀ s, Pre (nm s)) : ∀ e : Exp, Pre (zev nm sh e)
 | .mk op n u s args => fun c => by
  have h := fun i => zmZ (sh := sh) hn args i;have hA := zm2 (sh := sh) hn args;rw [zev];simp only;split
  ·exact Pre.id c
  rename_i hc2;have hc3 : c.length <= 2000 := by omega
  split
  ·exact Pre.put _ c
  split
  ·exact hn s c
  split
  ·exact Pre.choice (h 0) ((h 1).comp Pre.truth) (Pre.put _) c hc3
  split
  ·exact Pre.choice (h 0) (Pre.put _) ((h 1).comp Pre.truth) c hc3
  split
  ·exact Pre.choice (h 0) (h 1) (h 2) c hc3
  ·exact (hA.comp (Pre.put _)) c
theorem zmZ {nm : List UInt8 -> Code -> Code} {sh : Exp -> Bool} (hn : ∀ s, Pre (nm s)) : ∀ (l : List Exp) (i : Nat), Pre (zf1 nm sh l i)
 | [], i => by rw [zf1]; exact Pre.id
 | e :: l, 0 => by rw [zf1]; exact zgf hn e
 | e :: l, i + 1 => by rw [zf1]; exact zmZ hn l i
theorem zm2 {nm : List UInt8 -> Code -> Code} {sh : Exp -> Bool} (hn : ∀ s, Pre (nm s)) : ∀ (l : List Exp), Pre (zfF nm sh l)
 | [] => by rw [zfF]; exact Pre.id
 | e :: l => by rw [zfF]; exact (zgf hn e).comp (zm2 hn l)
end
theorem zhL {lets sh} : ∀ (n : Nat) (s : List UInt8), Pre (nmC lets sh n s)
 | 0, s => by rw [nmC]; exact Pre.put _
 | n + 1, s => by
  rw [nmC];split
  ·exact Pre.put _
  ·split
   ·exact zgf (zhL n) _
   ·exact zhL n s
open Vm in
def Steps (C : Code) (vs : List Vm.Var) (q : Nat) (m m' : Mach) : Prop := ∀ (fuel : Int) (K : Nat) (n : Int), runK C vs fuel (q + K) n m = runK C vs fuel K (n + q) m'
open Vm in
def Ends (C : Code) (vs : List Vm.Var) (q : Nat) (m : Mach) (v e : Int) : Prop := ∀ (fuel : Int) (K : Nat) (n : Int), runK C vs fuel (q + K) n m = (v, n + q, e)
section
open Vm
variable {C : Code} {vs : List Vm.Var} {m m' m'' : Mach} {q q' : Nat} {v e : Int}
theorem Steps.zero : Steps C vs 0 m m := fun fuel K n => by simp
theorem Steps.trans (h : Steps C vs q m m') (g : Steps C vs q' m' m'') : Steps C vs (q + q') m m'' := fun fuel K n => by
 rw [show q + q' + K = q + (q' + K) by omega, h, g]
 congr 1
 omega
theorem Steps.ends (h : Steps C vs q m m') (g : Ends C vs q' m' v e) : Ends C vs (q + q') m v e := fun fuel K n => by
 rw [show q + q' + K = q + (q' + K) by omega, h, g];simp;omega
theorem Steps.one (h : stepM C vs m = m') (hm : m'.en = false) : Steps C vs 1 m m' := fun fuel K n => by
 rw [show 1 + K = K + 1 by omega, runK];simp [h, hm]
theorem Ends.one (h : stepM C vs m = m') (hm : m'.en = true) : Ends C vs 1 m m'.va m'.er := fun fuel K n => by
 rw [show 1 + K = K + 1 by omega, runK];simp [h, hm]
end
abbrev at_ (p : Nat) (S : List Int) (va er : Int) : Vm.Mach := ⟨p, S, false, va, er⟩
def okS (S : List Int) : Prop := ∀ x ∈ S, Vm.okv x = true
theorem okS.snoc {S : List Int} {x : Int} (h : okS S) (hx : Vm.okv x = true) : okS (S ++ [x]) := fun y hy => by
 rcases List.mem_append.1 hy with hy | hy
 ·exact h y hy
 ·simp at hy; subst hy; exact hx
section
open Vm
theorem zgz {C : Code} {vs : List Vm.Var} {p : Nat} {S : List Int} {va er : Int} {i : Ins} (hi : C[p]? = some i) (hop : 0 <= i.op /\ i.op < 15) (hl : needs i.op <= S.length) (hS : okS S) : stepM C vs (at_ p S va er) = stepI vs (at_ p S va er) i := by
 rw [stepM_eq (c := i) (by simp) (by simpa using hi), if_neg];rintro (h | h | h | h)
 ·omega
 ·omega
 ·simp only at h; omega
 ·obtain ⟨x, hx, h⟩ := List.any_eq_true.1 h;rw [hS x hx] at h;cases h
theorem ze9 {x : Int} (h : inC x) : okv x = true := by unfold inC at h; simp [okv, h]
theorem zlU {x : Int} (h : okv x = true) : inC x := by unfold okv at h; unfold inC; simpa using h
variable {C : Code} {vs : List Vm.Var} {p : Nat} {S : List Int} {va er : Int}
theorem zst {a : Int} (hi : C[p]? = some ⟨0, a, []⟩) (hS : okS S) : if okv a = true then Steps C vs 1 (at_ p S va er) (at_ (p + 1) (S ++ [a]) va er) else Ends C vs 1 (at_ p S va er) 0 3 := by
 have h := zgz (va := va) (er := er) (vs := vs) hi (by simp) (by simp [needs]) hS;have h2 : stepI vs (at_ p S va er) ⟨0, a, []⟩ = (at_ p S va er).push a := by simp [stepI]
 rw [h2] at h;split
 ·rename_i ha;have z := Steps.one h (by simp [Mach.push, ha]);have e : (at_ p S va er).push a = at_ (p + 1) (S ++ [a]) va er := by simp [Mach.push, ha]
  rw [e] at z;exact z
 ·rename_i ha;have := Ends.one h (by simp [Mach.push, ha, Mach.fin]);simpa [Mach.push, ha, Mach.fin] using this
theorem zqy {s : List UInt8} (hi : C[p]? = some ⟨1, 0, s⟩) (hS : okS S) : match vs.find? fun v => decide (v.name = s) with
  | none => Ends C vs 1 (at_ p S va er) 0 13
  | some v => if okv v.n = true then Steps C vs 1 (at_ p S va er) (at_ (p + 1) (S ++ [v.n]) va er) else Ends C vs 1 (at_ p S va er) 0 3 := by
 have h := zgz (va := va) (er := er) (vs := vs) hi (by simp) (by simp [needs]) hS;cases hf : vs.find? fun v => decide (v.name = s) with
 | none =>
  have h2 : stepI vs (at_ p S va er) ⟨1, 0, s⟩ = (at_ p S va er).fin 0 13 := by simp [stepI, hf]
  rw [h2] at h;have := Ends.one h (by simp [Mach.fin]);simpa [Mach.fin] using this
 | some v =>
  have h2 : stepI vs (at_ p S va er) ⟨1, 0, s⟩ = (at_ p S va er).push v.n := by simp [stepI, hf]
  rw [h2] at h;simp only;split
  ·rename_i ha;have z := Steps.one h (by simp [Mach.push, ha]);have e : (at_ p S va er).push v.n = at_ (p + 1) (S ++ [v.n]) va er := by simp [Mach.push, ha]
   rw [e] at z;exact z
  ·rename_i ha;have := Ends.one h (by simp [Mach.push, ha, Mach.fin]);simpa [Mach.push, ha, Mach.fin] using this
theorem zqz {a : Nat} (hi : C[p]? = some ⟨12, a, []⟩) (hS : okS S) : Steps C vs 1 (at_ p S va er) (at_ a S va er) := by
 have h := zgz (va := va) (er := er) (vs := vs) hi (by simp) (by simp [needs]) hS;have h2 : stepI vs (at_ p S va er) ⟨12, a, []⟩ = at_ a S va er := by simp [stepI]
 rw [h2] at h;exact Steps.one h rfl
theorem zuG {x : Int} : (at_ p (S ++ [x]) va er).top 0 = x := by simp [Mach.top]
theorem zt8 {x : Int} : (at_ p (S ++ [x]) va er).drop 1 = at_ p S va er := by simp [Mach.drop]
theorem zoL {a : Nat} {x : Int} (hi : C[p]? = some ⟨13, a, []⟩) (hS : okS S) (hx : inC x) : Steps C vs 1 (at_ p (S ++ [x]) va er) (at_ (if x = 0 then a else p + 1) S va er) := by
 have h := zgz (va := va) (er := er) (vs := vs) hi (by simp) (by simp [needs]; omega) (hS.snoc (ze9 hx));have h2 : stepI vs (at_ p (S ++ [x]) va er) ⟨13, a, []⟩ = at_ (if x = 0 then a else p + 1) S va er := by
  simp only [stepI, zuG, zt8];simp;split <;> simp
 rw [h2] at h;exact Steps.one h rfl
theorem zsu {x : Int} (hi : C[p]? = some ⟨11, 0, []⟩) (hS : okS S) (hx : inC x) : Steps C vs 1 (at_ p (S ++ [x]) va er) (at_ (p + 1) (S ++ [zdp (decide (x = 0))]) va er) := by
 have h := zgz (va := va) (er := er) (vs := vs) hi (by simp) (by simp [needs]; omega) (hS.snoc (ze9 hx));have h3 : okv (zdp (decide (x = 0))) = true := ze9 (zhw _);have h2 : stepI vs (at_ p (S ++ [x]) va er) ⟨11, 0, []⟩ = at_ (p + 1) (S ++ [zdp (decide (x = 0))]) va er := by
  have h4 : Pm.truth (decide (x = 0)) = zdp (decide (x = 0)) := by unfold Pm.truth zdp; rfl
  simp only [stepI, zuG, zt8, h4];simp [Mach.push, h3]
 rw [h2] at h;exact Steps.one h rfl
theorem zss {op x y : Int} (hop : 2 <= op /\ op <= 10) (hi : C[p]? = some ⟨op, 0, []⟩) (hS : okS S) (hx : inC x) (hy : inC y) : if op = 5 /\ y = 0 then Ends C vs 1 (at_ p (S ++ [x] ++ [y]) va er) 0 15 else
  if okv (Pm.two op x y) = true then Steps C vs 1 (at_ p (S ++ [x] ++ [y]) va er) (at_ (p + 1) (S ++ [Pm.two op x y]) va er) else Ends C vs 1 (at_ p (S ++ [x] ++ [y]) va er) 0 3 := by
 have h := zgz (va := va) (er := er) (vs := vs) hi (by simp; omega) (by simp [needs]; split <;> (try split) <;> omega) ((hS.snoc (ze9 hx)).snoc (ze9 hy));have ht1 : (at_ p (S ++ [x] ++ [y]) va er).top 1 = x := by simp [Mach.top]
 have hd2 : (at_ p (S ++ [x] ++ [y]) va er).drop 2 = at_ p S va er := by simp [Mach.drop]
 unfold stepI at h;rw [if_neg (by simp; omega), if_neg (by simp; omega), if_neg (by simp; omega), if_neg (by simp; omega), if_neg (by simp; omega), if_neg (by simp; omega)] at h;simp only [ht1, hd2, zuG] at h;split
 ·rename_i hz;rw [if_pos hz] at h;have := Ends.one h (by simp [Mach.fin]);simpa [Mach.fin] using this
 ·rename_i hz;rw [if_neg hz] at h;split
  ·rename_i ha;have z := Steps.one h (by simp [Mach.push, ha]);have e : (at_ p S va er).push (Pm.two op x y) = at_ (p + 1) (S ++ [Pm.two op x y]) va er := by simp [Mach.push, ha]
   rw [e] at z;exact z
  ·rename_i ha;have := Ends.one h (by simp [Mach.push, ha, Mach.fin]);simpa [Mach.push, ha, Mach.fin] using this
end
def Res (C : Code) (vs : List Vm.Var) (p p' : Nat) (S : List Int) (r : Except Int Int) : Prop := ∀ va er, match r with
 | .ok v => inC v /\ ∃ q, q <= p' - p /\ Steps C vs q (at_ p S va er) (at_ p' (S ++ [v]) va er)
 | .error e => ∃ q, q <= p' - p /\ Ends C vs q (at_ p S va er) 0 e
def Does (vs : List Vm.Var) (F : Code -> Code) (r : Except Int Int) : Prop := ∀ (c C : Code) (S : List Int), (F c).length <= 2000 -> (∀ i, c.length <= i -> i < (F c).length -> C[i]? = (F c)[i]?) -> okS S -> Res C vs c.length (F c).length S r
theorem zes {c : Code} {x : Ins} (h : (zb4 c x).length <= 2000) : c.length <= 1999 /\ (zb4 c x).length = c.length + 1 /\ (zb4 c x)[c.length]? = some x /\ ∀ i, i < c.length -> (zb4 c x)[i]? = c[i]? := by
 have h1 := zfz c x;have h2 : c.length <= 1999 := by split at h1 <;> omega
 refine ⟨h2, by rw [h1, if_pos (by omega)], ?_, (zcK x c).2⟩;unfold zb4;rw [if_pos (by omega)];simp
abbrev zkb (r : Except Int Int) (f : Int -> Except Int Int) : Except Int Int := match r with | .error e => .error e | .ok a => f a
theorem Does.num {vs} (a : Int) : Does vs (fun c => zb4 c ⟨0, a, []⟩) (zjG a) := fun c C S hl hC hS => by
 simp only at hl hC ⊢;intro va er;obtain ⟨h1, h2, h3, _⟩ := zes hl;have hi : C[c.length]? = some ⟨0, a, []⟩ := by rw [hC _ (Nat.le_refl _) (by omega)]; exact h3
 have := zst (vs := vs) (va := va) (er := er) hi hS;unfold zjG;by_cases ho : Vm.okv a = true
 ·rw [if_pos ho] at this;have hin := zlU ho;rw [if_neg (by unfold inC at hin; omega)];exact ⟨hin, 1, by omega, by rw [h2]; exact this⟩
 ·rw [if_neg ho] at this;rw [if_pos (by
   apply Classical.byContradiction;intro hno;exact ho (ze9 (by unfold inC; omega)))]
  exact ⟨1, by omega, this⟩
theorem Does.name {vs} (s : List UInt8) (hvs : ∀ v ∈ vs, inC v.n) : Does vs (fun c => zb4 c ⟨1, 0, s⟩) (match vs.find? fun v => decide (v.name = s) with | none => .error 13 | some v => .ok v.n) := fun c C S hl hC hS => by
 simp only at hl hC ⊢;intro va er;obtain ⟨h1, h2, h3, _⟩ := zes hl;have hi : C[c.length]? = some ⟨1, 0, s⟩ := by rw [hC _ (Nat.le_refl _) (by omega)]; exact h3
 have := zqy (vs := vs) (va := va) (er := er) hi hS;cases hf : vs.find? fun v => decide (v.name = s) with
 | none =>
  rw [hf] at this;exact ⟨1, by omega, this⟩
 | some v =>
  rw [hf] at this;have hin := hvs v (List.mem_of_find?_eq_some hf);simp only at this;rw [if_pos (ze9 hin)] at this;exact ⟨hin, 1, by omega, by rw [h2]; exact this⟩
theorem Does.err {vs F r e} (h : r = .error e) (g : Does vs F r) {c C S} (hl : (F c).length <= 2000) (hC : ∀ i, c.length <= i -> i < (F c).length -> C[i]? = (F c)[i]?) (hS : okS S) (va er : Int) : ∃ q, q <= (F c).length - c.length /\ Ends C vs q (at_ c.length S va er) 0 e := by
 subst h; exact g c C S hl hC hS va er
theorem Does.ok {vs F r v} (h : r = .ok v) (g : Does vs F r) {c C S} (hl : (F c).length <= 2000) (hC : ∀ i, c.length <= i -> i < (F c).length -> C[i]? = (F c)[i]?) (hS : okS S) (va er : Int) : inC v /\ ∃ q, q <= (F c).length - c.length /\ Steps C vs q (at_ c.length S va er) (at_ (F c).length (S ++ [v]) va er) := by
 subst h; exact g c C S hl hC hS va er
theorem Does.cast {vs F r r'} (h : Does vs F r) (e : r = r') : Does vs F r' := e ▸ h
theorem Does.not {vs F ra} (hF : Does vs F ra) (pF : Pre F) : Does vs (fun c => zb4 (F c) ⟨11, 0, []⟩) (zkb ra fun a => .ok (zdp (decide (a = 0)))) := fun c C S hl hC hS va er => by
 simp only at hl hC;obtain ⟨h1, h2, h3, h4⟩ := zes hl;obtain ⟨p1, _⟩ := pF c;have hCF : ∀ i, c.length <= i -> i < (F c).length -> C[i]? = (F c)[i]? := fun i hi hi2 => by rw [hC i hi (by omega), h4 i hi2]
 have hi : C[(F c).length]? = some ⟨11, 0, []⟩ := by rw [hC _ p1 (by omega)]; exact h3
 cases ra with
 | error e =>
  obtain ⟨q, hq, hE⟩ := hF.err rfl (by omega) hCF hS va er;exact ⟨q, by simp only; omega, hE⟩
 | ok a =>
  obtain ⟨hin, q, hq, hE⟩ := hF.ok rfl (by omega) hCF hS va er;exact ⟨zhw _, q + 1, by simp only; omega, by simp only; rw [h2]; exact hE.trans (zsu hi hS hin)⟩
theorem Does.truth {vs F ra} (hF : Does vs F ra) (pF : Pre F) : Does vs (fun c => zdq (F c)) (zkb ra fun a => .ok (zdp (decide (a ≠ 0)))) := by
 have := (hF.not pF).not (pF.comp (Pre.put _));cases ra with
 | error e => exact this
 | ok a =>
  have e : zdp (decide (zdp (decide (a = 0)) = 0)) = zdp (decide (a ≠ 0)) := by
   unfold zdp;by_cases h : a = 0 <;> simp [h]
  exact this.cast (congrArg Except.ok e)
theorem Does.choice {vs A B D ra rb rd} (hA : Does vs A ra) (hB : Does vs B rb) (hD : Does vs D rd) (pA : Pre A) (pB : Pre B) (pD : Pre D) :
  Does vs (zbI A B D) (zkb ra fun a => if a = 0 then rd else rb) := fun c C S hl hC hS va er => by
 unfold zbI at hl hC ⊢;obtain ⟨a1, _⟩ := pA c;obtain ⟨p1, p2⟩ := zcK ⟨13, 0, []⟩ (A c);have kA := @zes (A c) ⟨13, 0, []⟩;generalize hc2 : zb4 (A c) ⟨13, 0, []⟩ = c2 at *;obtain ⟨b1, b2⟩ := pB c2;obtain ⟨q1, q2⟩ := zcK ⟨12, 0, []⟩ (B c2);have kB := @zes (B c2) ⟨12, 0, []⟩;generalize hc4 : zb4 (B c2) ⟨12, 0, []⟩ = c4 at *;obtain ⟨d1, d2⟩ := pD (zdK c4 (c2.length - 1));rw [zbO] at d1 d2;have hD' := hD (zdK c4 (c2.length - 1)) C;rw [zbO] at hl hD' ⊢;generalize hc6 : D (zdK c4 (c2.length - 1)) = c6 at *;obtain ⟨x1, x2, x3, x4⟩ := kB (by omega);obtain ⟨y1, y2, y3, y4⟩ := kA (by omega);rw [zbO] at hC;have g5 : ∀ i, i < c4.length -> i ≠ c2.length - 1 -> i ≠ c4.length - 1 -> c.length <= i -> C[i]? = c4[i]? := fun i h1 h2 h3 h4 => by
  rw [hC i h4 (by omega), zc6 _ _ _ h3, d2 i h1, zc6 _ _ _ h2]
 have gA : ∀ i, c.length <= i -> i < (A c).length -> C[i]? = (A c)[i]? := fun i h1 h2 => by
  rw [g5 i (by omega) (by omega) (by omega) h1, x4 i (by omega), b2 i (by omega), y4 i h2]
 have gF : C[(A c).length]? = some ⟨13, (c4.length : Nat), []⟩ := by
  have e : (A c).length = c2.length - 1 := by omega
  rw [hC _ a1 (by omega), zc6 _ _ _ (by omega), d2 _ (by omega), e];exact zhe (x := ⟨13, 0, []⟩) (by rw [<- e, x4 _ (by omega), b2 _ (by omega), y3])
 have gB : ∀ i, c2.length <= i -> i < (B c2).length -> C[i]? = (B c2)[i]? := fun i h1 h2 => by
  rw [g5 i (by omega) (by omega) (by omega) (by omega), x4 i h2]
 have gJ : C[(B c2).length]? = some ⟨12, (c6.length : Nat), []⟩ := by
  have e : (B c2).length = c4.length - 1 := by omega
  rw [hC _ (by omega) (by omega), e];exact zhe (x := ⟨12, 0, []⟩) (by rw [<- e, d2 _ (by omega), zc6 _ _ _ (by omega), x3])
 have gD : ∀ i, c4.length <= i -> i < c6.length -> C[i]? = c6[i]? := fun i h1 h2 => by
  rw [hC i (by omega) h2, zc6 _ _ _ (by omega)]
 cases ra with
 | error e =>
  obtain ⟨q, hq, hE⟩ := hA.err rfl (by omega) gA hS va er;exact ⟨q, by omega, hE⟩
 | ok a =>
  obtain ⟨hin, q, hq, hE⟩ := hA.ok rfl (by omega) gA hS va er;have hf := hE.trans (zoL gF hS hin);by_cases ha : a = 0
  ·rw [if_pos ha] at hf;have hb : zkb (.ok a) (fun a => if a = 0 then rd else rb) = rd := if_pos ha;rw [hb];have := hD' S (by omega) gD hS va er;cases rd with
   | error e =>
    obtain ⟨q', hq', hE'⟩ := this;exact ⟨_, by omega, hf.ends hE'⟩
   | ok v =>
    obtain ⟨hin', q', hq', hE'⟩ := this;exact ⟨hin', _, by omega, hf.trans hE'⟩
  ·rw [if_neg ha] at hf;have hb : zkb (.ok a) (fun a => if a = 0 then rd else rb) = rb := if_neg ha;rw [hb];rw [<- y2] at hf;have := hB c2 C S (by omega) gB hS va er;cases rb with
   | error e =>
    obtain ⟨q', hq', hE'⟩ := this;exact ⟨_, by omega, hf.ends hE'⟩
   | ok v =>
    obtain ⟨hin', q', hq', hE'⟩ := this;exact ⟨hin', _, by omega, (hf.trans hE').trans (zqz gJ (hS.snoc (ze9 hin')))⟩
end Go.Proofs.YtkdhmbhbbciedaaGreatDoor
namespace Go.Proofs.YtkdhmbhbbciedaaGreatDoor
open Go Go.VL Go.ChangeShapes Go.WideShapes Go.ChangeAt Go.RowKit
end Go.Proofs.YtkdhmbhbbciedaaGreatDoor
namespace Go.Proofs.YtkdhmbhbbciedaaGreatDoor
open Go Go.VL
def zpf : Nat -> List UInt8 -> Nat -> Except (Nat × Int) (List Tok)
 | 0, _, _ => .ok []
 | f + 1, s, p =>
  match (s.drop (p + zdn zcW (s.drop p))) with
  | [] => .ok [⟨0, [], 0, ((p + zdn zcW (s.drop p) : Nat) : Int)⟩]
  | c :: r => match zil (c :: r) with
   | .error e => .error (p + zdn zcW (s.drop p), e)
   | .ok t => match zpf f s (p + zdn zcW (s.drop p) + t.text.length) with
    | .error x => .error x
    | .ok l => .ok ({ t with pos := ((p + zdn zcW (s.drop p) : Nat) : Int) } :: l)
def zpd (s : List UInt8) : Except (Nat × Int) (List Tok) := if 2000 < s.length then .error (0, 6) else zpf (s.length + 1) s 0
def ziX : Except (Nat × Int) (List Tok) -> D
 | .ok l => .tup [.u (.sl (l.map fun t => [.int .i64 t.kind, .str t.text, .int .i64 t.n, .int .i64 t.pos])), .u (.int .i64 0), .u (.int .i64 0)]
 | .error (p, e) => .tup [.u (.sl []), .u (.int .i64 p), .u (.int .i64 e)]
def znx (acc : List Tok) : Except (Nat × Int) (List Tok) -> Except (Nat × Int) (List Tok)
 | .ok l => .ok (acc ++ l)
 | .error x => .error x
theorem zoS (x) : znx [] x = x := by cases x <;> simp [znx]
theorem zkq {p : UInt8 -> Bool} {c : UInt8} {r : List UInt8} (h : p c = true) : 0 < zdn p (c :: r) := by
 unfold zdn; rw [List.takeWhile_cons, if_pos h]; simp
theorem zgE {s : List UInt8} {t : Tok} (h : zil s = .ok t) : 0 < t.text.length /\ t.text.length <= s.length := by
 unfold zil at h;split at h
 ·cases h
 ·rename_i c r;by_cases c1 : zdM c = true
  ·rw [if_pos c1] at h;split at h
   ·cases h;have h1 := zkq (p := zdV) (c := c) (r := r) (by simp [zdV, c1]);have h2 := zep zdV (c :: r);simp only [List.length_take];omega
   ·cases h
  ·rw [if_neg c1] at h;by_cases c2 : zbg c = true
   ·rw [if_pos c2] at h;split at h
    ·cases h;have h1 := zkq (p := zbg) (c := c) (r := r) c2;have h2 := zep zbg (c :: r);simp only [List.length_take];omega
    ·cases h
   ·rw [if_neg c2] at h;split at h
    ·rename_i x hx;cases h;have h1 := List.find?_some hx;have h2 := List.mem_of_find?_eq_some hx;refine ⟨?_, (List.isPrefixOf_iff_prefix.1 h1).length_le⟩;simp only [signsL, List.mem_cons, List.not_mem_nil, or_false] at h2;rcases h2 with h | h | h | h | h | h | h | h | h | h | h <;> subst h <;> simp
    ·cases h
def zkm (l : List Tok) : List (List D) := l.map fun t => [.u (.int .i64 t.kind), .u (.str t.text), .u (.int .i64 t.n), .u (.int .i64 t.pos)]
theorem zd9 (l : List Tok) : (zkm l).length = l.length := by simp [zkm]
theorem zkl (l : List Tok) : rowsD (l.map fun t => [U.int .i64 t.kind, .str t.text, .int .i64 t.n, .int .i64 t.pos]) = zkm l := by simp [rowsD, zkm, Function.comp_def]
theorem zmF (l : List Tok) : zcx (zkm l) = some (l.map fun t => [U.int .i64 t.kind, .str t.text, .int .i64 t.n, .int .i64 t.pos]) := by rw [<- zkl]; simp
theorem zhE (l) : zaN (zkm l) = True := by rw [<- zkl]; simp
theorem zgy (n : Nat) (l) : (∀ x ∈ zkm l, ∀ y ∈ x, D.under n y = true) ↔ True := by
 refine ⟨fun _ => trivial, fun _ x hx y hy => ?_⟩;obtain ⟨b, _, rfl⟩ := List.mem_map.1 hx;simp at hy;rcases hy with rfl | rfl | rfl | rfl <;> simp [D.under]
end Go.Proofs.YtkdhmbhbbciedaaGreatDoor
namespace Go.Proofs.YtkdhmbhbbciedaaGreatDoor
open Go Go.VL
abbrev zoH (l : List Tok) : U := .sl (l.map fun t => [.int .i64 t.kind, .str t.text, .int .i64 t.n, .int .i64 t.pos])
abbrev pOb (l : List Tok) (p : Nat) : Ob := .box [.u (zoH l), .u (.int .i64 p)]
abbrev zr6 (l : List Tok) (p : Nat) : U := .row [zoH l, .int .i64 p] 0
structure TokOK (l : List Tok) : Prop where
 fin : ∀ (i : Nat) (t : Tok), l[i]? = some t -> t.kind ≠ 0 -> i + 1 < l.length
 len : l.length <= 1000000
def isB (l : List Tok) (p : Nat) (w : List UInt8) : Bool := match l[p]? with | some t => decide (t.kind ≠ 0) && decide (t.text = w) | none => false
theorem zcM {l : List Tok} {p : Nat} {w : List UInt8} (hl : TokOK l) (h : isB l p w = true) : p + 1 < l.length := by
 unfold isB at h;split at h
 ·rename_i t ht;simp only [Bool.and_eq_true, decide_eq_true_eq] at h;exact hl.fin p t ht h.1
 ·cases h
end Go.Proofs.YtkdhmbhbbciedaaGreatDoor
namespace Go.Proofs.YtkdhmbhbbciedaaGreatDoor
open Go Go.VL Go.Shelf Go.RowKit
theorem zqq {k : Kr} {d e : D} {vs : Array Value} (h : RepL k [d, e] vs) : ∃ v u, vs = #[v, u] /\ Rep k d v /\ Rep k e u := by
 obtain ⟨h1, h2⟩ := h;have hs : vs.size = 2 := by simpa using h1
 refine ⟨vs.getD 0 undef, vs.getD 1 undef, ?_, h2 0 d rfl, h2 1 e rfl⟩;apply Array.ext_getElem?;intro i
 match i with
 | 0 => simp [show 0 < vs.size by omega]
 | 1 => simp [show 1 < vs.size by omega]
 | i + 2 => rw [Array.getElem?_eq_none (by omega), Array.getElem?_eq_none (by simp)]
theorem zqv {k : Kr} {own obs} {w : World} (h : Sat k own obs w) : Lib.TabIs Tryz.prog w "internal/strconv.uint64pow10" .u64 Lib.pow10Tab := by
 have he : globs.head! = (globs.head!.1, Lib.pow10Tab.map fun z => Value.int .u64 z) := rfl;have hm : globs.head! ∈ globs := by unfold globs; exact List.mem_cons_self
 obtain ⟨h1, h2⟩ := k.glob.tab _ hm;rw [he] at h1 h2;simp only [List.length_map, Lib.pow10Tab_length] at h1 h2;obtain ⟨cs, t, fr, h3, h4⟩ := zqP (h.mem _ _ _ h2);have h5 : Tryz.prog.globalNamed "internal/strconv.uint64pow10" = some globs.head!.1 := by kernel_rfl
 unfold Lib.TabIs World.var?;rw [h5, Option.bind_some, h3];simp only [Option.some.injEq];apply Array.ext_getElem?;intro j;by_cases hj : j < 20
 ·have h6 := h.cell (h1 j hj);have h7 : cs[j]? = some ((Lib.pow10Tab.map fun z => Value.int .u64 z).getD j undef) := by simpa [World.cell?, h3] using h6
  rw [h7];simp [List.getD, Lib.pow10Tab_length, hj]
 ·rw [Array.getElem?_eq_none (by omega), Array.getElem?_eq_none (by simp [Lib.pow10Tab_length]; omega)]
theorem zq3 (n : Int) (h0 : -9223372036854775808 <= n) (h1 : n <= 9223372036854775807) : Fun Tryz.prog 84 [.u (.int .i64 n)] (· = .u (.str (Lib.itoa n))) :=
 Fun.zqg fun k own w vs hsat hrep => by
  obtain ⟨v, rfl, hv⟩ := zhJ hrep;have hv := zb1 hv;subst hv;refine ⟨_, .str _, (Tryz.strconv_Itoa n h0 h1 w (zqv hsat)).mono ?_⟩;rintro e w' ⟨h1, q, os, rfl⟩;refine ⟨h1, rfl, rfl, rfl, ?_, fun x hx => ?_⟩
  ·show w.heap.size <= (w.heap ++ os).size;simp
  ·show (w.heap ++ os)[x]? = w.heap[x]?;rw [Array.getElem?_append_left hx]
end Go.Proofs.YtkdhmbhbbciedaaGreatDoor
namespace Go.Proofs.YtkdhmbhbbciedaaGreatDoor
open Go Go.VL
theorem zqu (a b : Int) : a.tdiv b * b ≠ a ↔ a.tmod b ≠ 0 := by
 have := Int.mul_tdiv_add_tmod a b;rw [Int.mul_comm] at this;omega
theorem zh5 (a b : Int) (hb : b ≠ 0) : zk8 a b = a.fdiv b := by
 rw [Pm.floor_eq a b hb];unfold zk8;simp only [zqu]
theorem zhg {n : Int} : zjG n = if Vm.okv n = true then .ok n else .error 3 := by
 unfold zjG Vm.okv;by_cases h : -1099511627776 <= n /\ n <= 1099511627776
 ·rw [if_neg (by omega), if_pos (by simpa using h)]
 ·rw [if_pos (by omega), if_neg (by simpa using h)]
theorem zkC {a b c : Int} (hc : c = 1 \/ c = 1000) : zsx a b c = if Vm.okv (Pm.over a b c) = true then .ok (Pm.over a b c) else .error 3 := by
 have hcp : 0 < c := by omega
 have hcn : c ≠ 0 := by omega
 have hfl : zk8 (a * b) c = a * b / c := by rw [zh5 _ _ hcn, Int.fdiv_eq_ediv_of_nonneg _ (by omega)]
 have habs : (a * b).natAbs = a.natAbs * b.natAbs := Int.natAbs_mul a b;unfold zsx;have hiff : (a ≠ 0 /\ ((1099511627777 * c).tdiv (max a (-a)) < b \/ b < (-(1099511627777 * c)).tdiv (max a (-a)))) ↔ (1099511627777 * c).natAbs < a.natAbs * b.natAbs := by
  by_cases ha : a = 0
  ·subst ha; simp
  ·have hM : 0 < max a (-a) := by omega
   have hm : (max a (-a)).natAbs = a.natAbs := by omega
   have h1 : ((1099511627777 * c).tdiv (max a (-a))).natAbs = (1099511627777 * c).natAbs / a.natAbs := by rw [Int.natAbs_tdiv, hm]; rfl
   have h3 : 0 <= (1099511627777 * c).tdiv (max a (-a)) := Int.tdiv_nonneg (by omega) (by omega);have h4 : (-(1099511627777 * c)).tdiv (max a (-a)) = -((1099511627777 * c).tdiv (max a (-a))) := by rw [Int.neg_tdiv]
   rw [h4];have h5 : (1099511627777 * c).natAbs / a.natAbs < b.natAbs ↔ (1099511627777 * c).natAbs < a.natAbs * b.natAbs := by
    rw [Nat.div_lt_iff_lt_mul (by omega), Nat.mul_comm]
   rw [<- h5, <- h1];generalize (1099511627777 * c).tdiv (max a (-a)) = q at *;constructor
   ·rintro ⟨_, h⟩; omega
   ·intro h; exact ⟨ha, by omega⟩
 by_cases hbig : (1099511627777 * c).natAbs < a.natAbs * b.natAbs
 ·rw [if_pos (hiff.2 hbig)];have ho : Pm.over a b c = 1099511627777 := by
   unfold Pm.over;rw [if_pos];have e : ((a.natAbs : Int) * (b.natAbs : Int)) = ((a.natAbs * b.natAbs : Nat) : Int) := by push_cast; rfl
   rw [e];rcases hc with rfl | rfl <;> omega
  rw [ho, if_neg (by decide)]
 ·rw [if_neg (fun h => hbig (hiff.1 h)), hfl, zhg];have e : ((a.natAbs : Int) * (b.natAbs : Int)) = ((a.natAbs * b.natAbs : Nat) : Int) := by push_cast; rfl
  unfold Pm.over;rw [e];by_cases h2 : 1099511627776 < ((a.natAbs * b.natAbs : Nat) : Int) / c
  ·have hL : ¬ Vm.okv (a * b / c) = true := fun h3 => by
    have h4 : inC (a * b / c) := zlU h3;unfold inC at h4;rcases hc with rfl | rfl <;> omega
   rw [if_pos h2, if_neg hL, if_neg (by decide)]
  ·rw [if_neg h2]
theorem ztg {sh : Exp -> Bool} {op : Int} {args : List Exp} (hop : 2 <= op /\ op <= 9) {a b : Int} (ha : inC a) (hb : inC b) : 2 <= zaT sh op args /\ zaT sh op args <= 10 /\
  (if zaT sh op args = 5 /\ b = 0 then zlG op ((args.take 2).any sh) a b = .error 15 else
    zlG op ((args.take 2).any sh) a b = if Vm.okv (Pm.two (zaT sh op args) a b) = true then .ok (Pm.two (zaT sh op args) a b) else .error 3) := by
 have htr : ∀ x : Bool, Pm.truth x = zdp x := fun x => by unfold Pm.truth zdp; rfl
 have hmin : Vm.okv (min a b) = true := ze9 (by unfold inC at *; omega);have hmax : Vm.okv (max a b) = true := ze9 (by unfold inC at *; omega);have htk : ∀ x : Bool, Vm.okv (zdp x) = true := fun x => ze9 (zhw x);rcases (show op = 2 \/ op = 3 \/ op = 4 \/ op = 5 \/ op = 6 \/ op = 7 \/ op = 8 \/ op = 9 by omega) with rfl | rfl | rfl | rfl | rfl | rfl | rfl | rfl
 ·simp [zaT, zlG, Pm.two, zhg]
 ·simp [zaT, zlG, Pm.two, zhg]
 ·generalize hs : (args.take 2).any sh = s;cases s with
  | true => simp [zaT, zlG, Pm.two, hs, zkC (.inr rfl)]
  | false => simp [zaT, zlG, Pm.two, hs, zkC (.inl rfl)]
 ·by_cases h0 : b = 0
  ·simp [zaT, zlG, h0]
  ·simp [zaT, zlG, Pm.two, h0, zhg, zh5 a b h0]
 ·simp [zaT, zlG, Pm.two, hmin]
 ·simp [zaT, zlG, Pm.two, hmax]
 ·simp [zaT, zlG, Pm.two, htr, htk]
 ·simp [zaT, zlG, Pm.two, htr, htk]
theorem Does.bin {vs F G ra rb} {sh : Exp -> Bool} {op : Int} {args : List Exp} (hF : Does vs F ra) (hG : Does vs G rb) (pF : Pre F) (pG : Pre G) (hop : 2 <= op /\ op <= 9) :
  Does vs (fun c => zb4 (G (F c)) ⟨zaT sh op args, 0, []⟩) (zkb ra fun a => zkb rb fun b => zlG op ((args.take 2).any sh) a b) := fun c C S hl hC hS va er => by
 simp only at hl hC;obtain ⟨h1, h2, h3, h4⟩ := zes hl;obtain ⟨p1, _⟩ := pF c;obtain ⟨q1, q2⟩ := pG (F c);have hCG : ∀ i, c.length <= i -> i < (G (F c)).length -> C[i]? = (G (F c))[i]? := fun i hi hi2 => by rw [hC i hi (by omega), h4 i hi2]
 have hCF : ∀ i, c.length <= i -> i < (F c).length -> C[i]? = (F c)[i]? := fun i hi hi2 => by rw [hCG i hi (by omega), q2 i hi2]
 have hi : C[(G (F c)).length]? = some ⟨zaT sh op args, 0, []⟩ := by rw [hC _ (by omega) (by omega)]; exact h3
 cases ra with
 | error e =>
  obtain ⟨q, hq, hE⟩ := hF.err rfl (by omega) hCF hS va er;exact ⟨q, by simp only; omega, hE⟩
 | ok a =>
  obtain ⟨hin, q, hq, hE⟩ := hF.ok rfl (by omega) hCF hS va er;have hG' := hG (F c) C (S ++ [a]) (by omega) (fun i hi => hCG i (by omega)) (hS.snoc (ze9 hin)) va er;cases rb with
  | error e =>
   obtain ⟨q', hq', hE'⟩ := hG';exact ⟨_, by simp only; omega, hE.ends hE'⟩
  | ok b =>
   obtain ⟨hin', q', hq', hE'⟩ := hG';have hEE := hE.trans hE';obtain ⟨m1, m2, m3⟩ := ztg (sh := sh) (args := args) hop hin hin';have := zss (va := va) (er := er) (vs := vs) ⟨m1, m2⟩ hi hS hin hin';have hb : (zkb (.ok a) fun a => zkb (.ok b) fun b => zlG op ((args.take 2).any sh) a b) = zlG op ((args.take 2).any sh) a b := rfl;rw [hb];split at m3
   ·rename_i hz;rw [if_pos hz] at this;rw [m3];exact ⟨_, by first | omega | (simp only; omega), hEE.ends this⟩
   ·rename_i hz;rw [if_neg hz] at this;split at m3
    ·rename_i ho;rw [if_pos ho] at this;rw [m3];exact ⟨zlU ho, q + q' + 1, by first | omega | (simp only; omega), by (first | rw [h2] | (simp only; rw [h2])); exact hEE.trans this⟩
    ·rename_i ho;rw [if_neg ho] at this;rw [m3];exact ⟨_, by first | omega | (simp only; omega), hEE.ends this⟩
theorem zdw {nm sh} : ∀ {l : List Exp} {i : Nat} {e : Exp}, l[i]? = some e -> zf1 nm sh l i = zev nm sh e
 | [], _, _, h => by simp at h
 | a :: r, 0, e, h => by simp at h; subst h; rw [zf1]
 | a :: r, i + 1, e, h => by rw [zf1]; exact zdw (by simpa using h)
end Go.Proofs.YtkdhmbhbbciedaaGreatDoor
namespace Go.Proofs.YtkdhmbhbbciedaaGreatDoor
open Go Go.VL
def zfM (lets : List Let) : Nat -> List UInt8 -> Option Nat
 | 0, _ => none
 | n + 1, s => match lets[n]? with
  | none => none
  | some l => if l.name = s then some n else zfM lets n s
theorem zgG {lets : List Let} {s : List UInt8} : ∀ {n i : Nat}, zfM lets n s = some i -> i < n /\ ∃ l, lets[i]? = some l /\ l.name = s
 | 0, i, h => by simp [zfM] at h
 | n + 1, i, h => by
  rw [zfM] at h;split at h
  ·cases h
  ·rename_i l hl;split at h
   ·rename_i hn;cases h;exact ⟨by omega, l, hl, hn⟩
   ·obtain ⟨h1, h2⟩ := zgG h;exact ⟨by omega, h2⟩
def zaI (l : List Bool) : U := .sl (l.map fun b => [.bool b])
def nmS (lets : List Let) (shs : List Bool) (n : Nat) (s : List UInt8) : Bool := match zfM lets n s with | some i => shs.getD i false | none => false
def ixO : Option Nat -> Int | some i => i | none => -1
end Go.Proofs.YtkdhmbhbbciedaaGreatDoor
namespace Go.Proofs.YtkdhmbhbbciedaaGreatDoor
open Go Go.VL
def zdE (lets : List Let) : Nat -> List Bool
 | 0 => []
 | n + 1 => match lets[n]? with
  | none => zdE lets n
  | some l => zdE lets n ++ [zcv (sF (mOf [] (lets.take n))) l.body]
theorem zfx {lets : List Let} : ∀ {n : Nat}, n <= lets.length -> (zdE lets n).length = n
 | 0, _ => rfl
 | n + 1, h => by
  have hn : n < lets.length := by omega
  rw [zdE, List.getElem?_eq_getElem hn];simp [zfx (lets := lets) (n := n) (by omega)]
theorem zoJ {lets : List Let} {i : Nat} {l : Let} (hl : lets[i]? = some l) : ∀ {n : Nat}, i < n -> n <= lets.length -> (zdE lets n)[i]? = some (zcv (sF (mOf [] (lets.take i))) l.body)
 | 0, h, _ => by omega
 | n + 1, h, hn => by
  have hn2 : n < lets.length := by omega
  have hlen := zfx (lets := lets) (n := n) (by omega);rw [zdE, List.getElem?_eq_getElem hn2];simp only;rcases Nat.lt_or_ge i n with h2 | h2
  ·rw [List.getElem?_append_left (by omega)];exact zoJ hl h2 (by omega)
  ·obtain rfl : i = n := by omega
   rw [List.getElem?_append_right (by omega), hlen];rw [List.getElem?_eq_getElem hn2] at hl;cases hl;simp
theorem zmK {lets : List Let} {m : Nat} (hm : m <= lets.length) : ∀ {n : Nat}, n <= m -> ∀ s, nmS lets (zdE lets m) n s = sF (mOf [] (lets.take n)) s
 | 0, _, s => by simp [nmS, zfM, mOf, sF, asc]
 | n + 1, hn, s => by
  have hnl : n < lets.length := by omega
  have hl : lets[n]? = some lets[n] := List.getElem?_eq_getElem hnl;have ih := zmK hm (n := n) (by omega) s;rw [zmP hl];unfold nmS at ih ⊢;rw [zfM, hl];simp only;unfold sF;rw [zp3];by_cases hs : lets[n].name = s
  ·rw [if_pos hs, if_pos hs.symm];have := zoJ hl (n := m) (by omega) hm;simp [List.getD_eq_getElem?_getD, this];rfl
  ·rw [if_neg hs, if_neg (fun e => hs e.symm)];exact ih
theorem zhy {lets : List Let} (hr : ∀ l ∈ lets, za0 12 l.body = true) (hl : lets.length <= 20) {n m : Nat} (hn : n <= m) (hm : m <= lets.length) {e : Exp} (he : za0 12 e = true) : zd5 (lets.take n) e = zcv (nmS lets (zdE lets m) n) e := by
 have h1 : zbh (lets.take n) e = true := by
  simp only [zbh, Bool.and_eq_true, decide_eq_true_eq, Bool.not_eq_true', List.any_eq_false, Bool.not_eq_true];refine ⟨⟨by simp; omega, he⟩, fun l h => ?_⟩;rw [hr l (List.mem_of_mem_take h)];simp
 rw [zd5, h1, Bool.true_and, show nmS lets (zdE lets m) n = sF (mOf [] (lets.take n)) from funext fun s => zmK hm hn s]
theorem zkx : ∀ (d : Nat) (e : Exp), za0 d e = true -> za0 (d + 1) e = true
 | 0, e, h => by simp [za0] at h
 | d + 1, e, h => by
  have ih := fun x => zkx d x;rw [za0] at h ⊢;by_cases h0 : e.op = 0
  ·simpa [h0] using h
  ·by_cases h1 : e.op = 1
   ·simpa [h0, h1] using h
   ·simp only [h0, h1, if_false, Bool.and_eq_true, decide_eq_true_eq] at h ⊢;refine ⟨h.1, ?_⟩;have h2 := h.2;split at h2
    ·cases h2
    ·rename_i hz;rw [if_neg hz];simp only [Bool.and_eq_true, decide_eq_true_eq, Bool.not_eq_true', List.any_eq_false] at h2 ⊢;exact ⟨h2.1, fun x hx => by simpa using ih x (by simpa using h2.2 x hx)⟩
theorem zfj {d d' : Nat} (h : d <= d') {e : Exp} (he : za0 d e = true) : za0 d' e = true := by
 induction h with
 | refl => exact he
 | step _ ih => exact zkx _ _ ih
theorem znB {lets : List Let} (hr : ∀ l ∈ lets, za0 12 l.body = true) (hl : lets.length <= 20) {n m d : Nat} (hn : n <= m) (hm : m <= lets.length) {e : Exp} (he : za0 (d + 1) e = true) (hd : d <= 11) (h0 : ¬ e.op = 0) (h1 : ¬ e.op = 1) :
  zaT (zcv (nmS lets (zdE lets m) n)) e.op e.args = zaT (zd5 (lets.take n)) e.op e.args := by
 have ha := (zdj he).2.2.2 h0 h1;have : (e.args.take 2).any (zcv (nmS lets (zdE lets m) n)) = (e.args.take 2).any (zd5 (lets.take n)) := by
  rw [Bool.eq_iff_iff, List.any_eq_true, List.any_eq_true];constructor
  ·rintro ⟨x, hx, h⟩;exact ⟨x, hx, by rw [zhy hr hl hn hm (zfj (by omega) (ha x (List.mem_of_mem_take hx)))]; exact h⟩
  ·rintro ⟨x, hx, h⟩;exact ⟨x, hx, by rw [<- zhy hr hl hn hm (zfj (by omega) (ha x (List.mem_of_mem_take hx)))]; exact h⟩
 unfold zaT;rw [this]
abbrev shF (lets : List Let) (n : Nat) : Exp -> Bool := zd5 (lets.take n)
def zen (lets : List Let) (e : Exp) : Code := zev (nmC lets (shF lets) lets.length) (shF lets lets.length) e []
def zcZ (lets : List Let) (e : Exp) : Code × Int := if zbh lets e = true then (if 2000 <= (zen lets e).length then ([], 6) else (zen lets e ++ [⟨14, 0, []⟩], 0)) else ([], 1)
end Go.Proofs.YtkdhmbhbbciedaaGreatDoor
namespace Go.Proofs.YtkdhmbhbbciedaaGreatDoor
open Go Go.VL
def zct (op : Int) : Int := if op = 0 \/ op = 1 \/ op = 12 then 0 else if op = 11 \/ op = 13 \/ op = 14 then 1 else 2
def zbk (op : Int) : Int := if op = 12 \/ op = 13 \/ op = 14 then 0 else 1
def zdx (x : Ins) (i n : Nat) : Bool :=
 if x.op = 0 then decide (x.s = []) && decide (-1099511627776 <= x.a) && decide (x.a <= 1099511627776)
 else if x.op = 1 then decide (x.a = 0) && zf8 x.s
 else if x.op = 12 \/ x.op = 13 then decide (x.s = []) && decide ((i : Int) < x.a) && decide (x.a < n)
 else decide (x.s = []) && decide (x.a = 0) && decide (0 <= x.op) && decide (x.op < 15)
def zdJ (x : Ins) (i : Nat) : List Nat := if x.op = 14 then [] else if x.op = 12 then [x.a.toNat] else if x.op = 13 then [i + 1, x.a.toNat] else [i + 1]
def ztG (hi : List Int) (k : Nat) (h : Int) : Option (List Int) := if 0 <= hi.getD k (-1) /\ hi.getD k (-1) ≠ h then none else some (hi.set k h)
def zg6 (h : Int) : List Nat -> List Int -> Option (List Int)
 | [], hi => some hi
 | k :: ks, hi => (ztG hi k h).bind (zg6 h ks)
def zoN (l : Code) (i : Nat) (hi : List Int) : Option (List Int) := match l[i]? with
 | none => none
 | some x => if hi.getD i (-1) < 0 then some hi
  else if hi.getD i (-1) < zct x.op \/ (x.op = 14 /\ hi.getD i (-1) ≠ 1) then none
  else zg6 (hi.getD i (-1) - zct x.op + zbk x.op) (zdJ x i) hi
def rgo (l : Code) : Nat -> Option (List Int)
 | 0 => some (0 :: List.replicate l.length (-1))
 | i + 1 => (rgo l i).bind (zoN l i)
def zgh (l : Code) : Bool := (List.range l.length).all fun i => match l[i]? with | some x => zdx x i l.length | none => true
def zb8 (l : Code) : Bool := decide (0 < l.length) && decide (l.length <= 2000) && zgh l && match rgo l l.length with | some h => decide (h.getD l.length (-1) < 0) | none => false
theorem zfG {l : Code} (h : zgh l = true) {i : Nat} {x : Ins} (hx : l[i]? = some x) : zdx x i l.length = true := by
 have := List.all_eq_true.1 h i (List.mem_range.2 (List.getElem?_eq_some_iff.1 hx).1);rw [hx] at this;exact this
structure Hts (C : Code) (H : Nat -> Int) : Prop where
 zero : H 0 = 0
 ok : ∀ i x, C[i]? = some x -> 0 <= H i /\ zct x.op <= H i /\ (x.op = 14 -> H i = 1) /\ ∀ k ∈ zdJ x i, i < k /\ k < C.length /\ H k = H i - zct x.op + zbk x.op
 reach : ∀ k, 0 < k -> k < C.length -> ∃ i x, i < k /\ C[i]? = some x /\ k ∈ zdJ x i
theorem zoK {H : Nat -> Int} {h : Int} : ∀ {ks : List Nat} {hi : List Int}, (∀ k ∈ ks, k < hi.length /\ H k = h /\ (hi.getD k (-1) = H k \/ hi.getD k (-1) = -1)) -> ∃ hi', zg6 h ks hi = some hi' /\ hi'.length = hi.length /\
  ∀ k, hi'.getD k (-1) = if k ∈ ks then h else hi.getD k (-1)
 | [], hi, _ => ⟨hi, rfl, rfl, fun k => by simp⟩
 | a :: ks, hi, hk => by
  obtain ⟨h1, h2, h3⟩ := hk a (by simp);have e : ztG hi a h = some (hi.set a h) := by
   unfold ztG;rw [if_neg];rintro ⟨h4, h5⟩;rcases h3 with h3 | h3
   ·exact h5 (h3.trans h2)
   ·omega
  have hg : ∀ k, (hi.set a h).getD k (-1) = if k = a then h else hi.getD k (-1) := fun k => by
   by_cases hka : k = a
   ·subst hka; simp [List.getD, h1]
   ·simp [List.getD, hka, List.getElem?_set_ne (Ne.symm hka)]
  obtain ⟨hi', h4, h5, h6⟩ := zoK (H := H) (h := h) (ks := ks) (hi := hi.set a h) fun k hm => by
   obtain ⟨g1, g2, g3⟩ := hk k (by simp [hm]);refine ⟨by simpa using g1, g2, ?_⟩;rw [hg];split
   ·exact .inl g2.symm
   ·exact g3
  refine ⟨hi', by rw [zg6, e]; exact h4, by simpa using h5, fun k => ?_⟩;rw [h6, hg];by_cases hm : k ∈ ks
  ·simp [hm]
  ·by_cases hka : k = a
   ·simp [hka]
   ·simp [hm, hka]
theorem zr5 {C : Code} {H : Nat -> Int} (h : Hts C H) : ∀ i, i <= C.length -> ∃ hi, rgo C i = some hi /\ hi.length = C.length + 1 /\
  ∀ k, k <= C.length -> ((k = 0 \/ ∃ j x, j < i /\ C[j]? = some x /\ k ∈ zdJ x j) -> hi.getD k (-1) = H k) /\ (¬ (k = 0 \/ ∃ j x, j < i /\ C[j]? = some x /\ k ∈ zdJ x j) -> hi.getD k (-1) = -1)
 | 0, _ => ⟨_, rfl, by simp, fun k hk => ⟨fun hr => by
   rcases hr with rfl | ⟨j, x, hj, _⟩
   ·simp [h.zero]
   ·omega, fun hr => by
   cases k with
   | zero => exact absurd (.inl rfl) hr
   | succ k => simp [List.getD, List.getElem?_replicate, show k < C.length by omega]⟩⟩
 | i + 1, hi1 => by
  obtain ⟨hi, e, hl, hv⟩ := zr5 h i (by omega);have hx : C[i]? = some C[i] := List.getElem?_eq_getElem (by omega);generalize C[i] = x at hx;obtain ⟨o1, o2, o3, o4⟩ := h.ok i x hx;have hri : hi.getD i (-1) = H i := (hv i (by omega)).1 (by
   by_cases h0 : i = 0
   ·exact .inl h0
   ·obtain ⟨j, y, hj, hy, hm⟩ := h.reach i (by omega) (by omega);exact .inr ⟨j, y, hj, hy, hm⟩)
  obtain ⟨hi', e', hl', hv'⟩ := zoK (H := H) (h := H i - zct x.op + zbk x.op) (ks := zdJ x i) (hi := hi) fun k hk => by
   obtain ⟨k1, k2, k3⟩ := o4 k hk;refine ⟨by omega, k3, ?_⟩;by_cases hr : k = 0 \/ ∃ j x, j < i /\ C[j]? = some x /\ k ∈ zdJ x j
   ·exact .inl ((hv k (by omega)).1 hr)
   ·exact .inr ((hv k (by omega)).2 hr)
  refine ⟨hi', ?_, by omega, fun k hk => ?_⟩
  ·rw [rgo, e];show zoN C i hi = _;unfold zoN;rw [hx, hri];simp only
   rw [if_neg (by omega), if_neg (by rintro (h1 | ⟨h1, h2⟩); · omega
                                     ·exact h2 (o3 h1))]
   exact e'
  ·rw [hv'];by_cases hm : k ∈ zdJ x i
   ·rw [if_pos hm];exact ⟨fun _ => (o4 k hm).2.2.symm, fun hr => absurd (.inr ⟨i, x, by omega, hx, hm⟩) hr⟩
   ·rw [if_neg hm];refine ⟨fun hr => (hv k hk).1 ?_, fun hr => (hv k hk).2 fun h2 => hr ?_⟩
    ·rcases hr with h0 | ⟨j, y, hj, hy, hm2⟩
     ·exact .inl h0
     ·refine .inr ⟨j, y, ?_, hy, hm2⟩;rcases Nat.lt_succ_iff_lt_or_eq.1 hj with h1 | h1
      ·exact h1
      ·subst h1;rw [hx] at hy;cases hy;exact absurd hm2 hm
    ·rcases h2 with h0 | ⟨j, y, hj, hy, hm2⟩
     ·exact .inl h0
     ·exact .inr ⟨j, y, by omega, hy, hm2⟩
theorem zqA {C : Code} {H : Nat -> Int} (h : Hts C H) (h0 : 0 < C.length) (hl : C.length <= 2000) (hf : zgh C = true) : zb8 C = true := by
 obtain ⟨hi, e, _, hv⟩ := zr5 h C.length (Nat.le_refl _);unfold zb8;rw [e, hf];have := (hv C.length (Nat.le_refl _)).2 (by
  rintro (h1 | ⟨j, x, _, hx, hm⟩)
  ·omega
  ·have := (h.ok j x hx).2.2.2 _ hm; omega)
 simp only [decide_eq_true h0, decide_eq_true hl, this, Bool.true_and];decide
structure Seg (C : Code) (p q : Nat) (H : Nat -> Int) : Prop where
 lt : p < q
 ok : ∀ i, p <= i -> i < q -> ∃ x, C[i]? = some x /\ x.op ≠ 14 /\ zdx x i (q + 1) = true /\ 0 <= H i /\ zct x.op <= H i /\ ∀ k ∈ zdJ x i, i < k /\ k <= q /\ H k = H i - zct x.op + zbk x.op
 reach : ∀ k, p < k -> k <= q -> ∃ i x, p <= i /\ i < k /\ C[i]? = some x /\ k ∈ zdJ x i
theorem zl8 {x : Ins} {i n m : Nat} (h : zdx x i n = true) (hm : n <= m) : zdx x i m = true := by
 unfold zdx at h ⊢;by_cases c0 : x.op = 0
 ·rw [if_pos c0] at h ⊢; exact h
 rw [if_neg c0] at h ⊢;by_cases c1 : x.op = 1
 ·rw [if_pos c1] at h ⊢; exact h
 rw [if_neg c1] at h ⊢;by_cases c2 : x.op = 12 \/ x.op = 13
 ·rw [if_pos c2] at h ⊢;simp only [Bool.and_eq_true, decide_eq_true_eq] at h ⊢;exact ⟨h.1, by omega⟩
 ·rw [if_neg c2] at h ⊢; exact h
theorem Seg.one {C : Code} {p : Nat} {x : Ins} {h : Int} (hx : C[p]? = some x) (h14 : x.op ≠ 14) (h12 : x.op ≠ 12) (h13 : x.op ≠ 13) (hf : zdx x p (p + 2) = true) (h0 : 0 <= h) (hn : zct x.op <= h) :
  Seg C p (p + 1) fun i => if i = p then h else h - zct x.op + zbk x.op := by
 have hne : zdJ x p = [p + 1] := by simp [zdJ, h14, h12, h13]
 refine ⟨by omega, fun i h1 h2 => ?_, fun k h1 h2 => ?_⟩
 ·obtain rfl : i = p := by omega
  refine ⟨x, hx, h14, hf, by simp [h0], by simp [hn], fun k hk => ?_⟩;rw [hne] at hk;simp at hk;subst hk;simp
 ·obtain rfl : k = p + 1 := by omega
  exact ⟨p, x, Nat.le_refl _, by omega, hx, by simp [hne]⟩
theorem Seg.glue {C : Code} {p m q : Nat} {H G : Nat -> Int} (h : Seg C p m H) (g : Seg C m q G) (e : H m = G m) : Seg C p q fun i => if i < m then H i else G i := by
 refine ⟨Nat.lt_trans h.lt g.lt, fun i h1 h2 => ?_, fun k h1 h2 => ?_⟩
 ·by_cases hm : i < m
  ·obtain ⟨x, a1, a2, a3, a4, a5, a6⟩ := h.ok i h1 hm;have := g.lt;refine ⟨x, a1, a2, zl8 a3 (by omega), by simp [hm, a4], by simp [hm, a5], fun k hk => ?_⟩;obtain ⟨k1, k2, k3⟩ := a6 k hk;refine ⟨k1, by omega, ?_⟩;simp only [hm, if_true];by_cases hkm : k < m
   ·rw [if_pos hkm]; exact k3
   ·obtain rfl : k = m := by omega
    rw [if_neg hkm, <- e]; exact k3
  ·obtain ⟨x, a1, a2, a3, a4, a5, a6⟩ := g.ok i (by omega) h2;refine ⟨x, a1, a2, a3, by simp [hm, a4], by simp [hm, a5], fun k hk => ?_⟩;obtain ⟨k1, k2, k3⟩ := a6 k hk;refine ⟨k1, k2, ?_⟩;simp only [hm, if_false];rw [if_neg (by omega)]; exact k3
 ·by_cases hm : k <= m
  ·exact h.reach k h1 hm
  ·obtain ⟨i, x, a1, a2, a3, a4⟩ := g.reach k (by omega) h2;exact ⟨i, x, by have := h.lt; omega, a2, a3, a4⟩
def Hgt (F : Code -> Code) : Prop := ∀ (c C : Code) (h : Int), (F c).length <= 2000 -> (∀ i, c.length <= i -> i < (F c).length -> C[i]? = (F c)[i]?) -> 0 <= h -> ∃ H, Seg C c.length (F c).length H /\ H c.length = h /\ H (F c).length = h + 1
theorem Hgt.put {x : Ins} (h14 : x.op ≠ 14) (h12 : x.op ≠ 12) (h13 : x.op ≠ 13) (hf : ∀ i, zdx x i (i + 2) = true) (hn : zct x.op = 0) (hl : zbk x.op = 1) : Hgt fun c => zb4 c x := fun c C h hl' hC h0 => by
 simp only at hl' hC ⊢;obtain ⟨h1, h2, h3, _⟩ := zes hl';have hi : C[c.length]? = some x := by rw [hC _ (Nat.le_refl _) (by omega)]; exact h3
 rw [h2];exact ⟨_, Seg.one (h := h) hi h14 h12 h13 (hf _) h0 (by omega), by simp, by simp [hn, hl]⟩
theorem Hgt.then {F : Code -> Code} {x : Ins} (hF : Hgt F) (pF : Pre F) (h14 : x.op ≠ 14) (h12 : x.op ≠ 12) (h13 : x.op ≠ 13) (hf : ∀ i, zdx x i (i + 2) = true) (hn : zct x.op = 1) (hl : zbk x.op = 1) : Hgt fun c => zb4 (F c) x := fun c C h hl' hC h0 => by
 simp only at hl' hC ⊢;obtain ⟨h1, h2, h3, h4⟩ := zes hl';obtain ⟨p1, _⟩ := pF c;obtain ⟨H, g1, g2, g3⟩ := hF c C h (by omega) (fun i hi hi2 => by rw [hC i hi (by omega), h4 i hi2]) h0;have hi : C[(F c).length]? = some x := by rw [hC _ p1 (by omega)]; exact h3
 rw [h2];refine ⟨_, g1.glue (Seg.one (h := h + 1) hi h14 h12 h13 (hf _) (by omega) (by omega)) (by simp [g3]), ?_, ?_⟩
 ·simp only [g1.lt, if_true]; exact g2
 ·rw [if_neg (by omega), if_neg (by omega), hn, hl]; omega
theorem Hgt.two {F G : Code -> Code} {x : Ins} (hF : Hgt F) (hG : Hgt G) (pF : Pre F) (pG : Pre G) (h14 : x.op ≠ 14) (h12 : x.op ≠ 12) (h13 : x.op ≠ 13) (hf : ∀ i, zdx x i (i + 2) = true) (hn : zct x.op = 2) (hl : zbk x.op = 1) :
  Hgt fun c => zb4 (G (F c)) x := fun c C h hl' hC h0 => by
 simp only at hl' hC ⊢;obtain ⟨h1, h2, h3, h4⟩ := zes hl';obtain ⟨p1, _⟩ := pF c;obtain ⟨q1, q2⟩ := pG (F c);obtain ⟨H, g1, g2, g3⟩ := hF c C h (by omega) (fun i hi hi2 => by rw [hC i hi (by omega), h4 i (by omega), q2 i hi2]) h0;obtain ⟨K, k1, k2, k3⟩ := hG (F c) C (h + 1) (by omega) (fun i hi hi2 => by rw [hC i (by omega) (by omega), h4 i hi2]) (by omega);have hi : C[(G (F c)).length]? = some x := by rw [hC _ (by omega) (by omega)]; exact h3
 rw [h2];have gk := g1.glue k1 (by omega);refine ⟨_, gk.glue (Seg.one (h := h + 1 + 1) hi h14 h12 h13 (hf _) (by omega) (by omega)) ?_, ?_, ?_⟩
 ·have := k1.lt;simp only [if_true];rw [if_neg (by omega)]; exact k3
 ·have := g1.lt; have := k1.lt;rw [if_pos (by omega), if_pos (by omega)]; exact g2
 ·rw [if_neg (by omega), if_neg (by omega), hn, hl]; omega
theorem Hgt.choice {A B D : Code -> Code} (hA : Hgt A) (hB : Hgt B) (hD : Hgt D) (pA : Pre A) (pB : Pre B) (pD : Pre D) : Hgt (zbI A B D) := fun c C h hl hC h0 => by
 unfold zbI at hl hC ⊢;obtain ⟨a1, _⟩ := pA c;obtain ⟨p1, p2⟩ := zcK ⟨13, 0, []⟩ (A c);have kA := @zes (A c) ⟨13, 0, []⟩;generalize hc2 : zb4 (A c) ⟨13, 0, []⟩ = c2 at *;obtain ⟨b1, b2⟩ := pB c2;obtain ⟨q1, q2⟩ := zcK ⟨12, 0, []⟩ (B c2);have kB := @zes (B c2) ⟨12, 0, []⟩;generalize hc4 : zb4 (B c2) ⟨12, 0, []⟩ = c4 at *;obtain ⟨d1, d2⟩ := pD (zdK c4 (c2.length - 1));rw [zbO] at d1 d2;have hD' := hD (zdK c4 (c2.length - 1)) C;rw [zbO] at hl hD' ⊢;generalize hc6 : D (zdK c4 (c2.length - 1)) = c6 at *;obtain ⟨x1, x2, x3, x4⟩ := kB (by omega);obtain ⟨y1, y2, y3, y4⟩ := kA (by omega);rw [zbO] at hC;have g5 : ∀ i, i < c4.length -> i ≠ c2.length - 1 -> i ≠ c4.length - 1 -> c.length <= i -> C[i]? = c4[i]? := fun i h1 h2 h3 h4 => by
  rw [hC i h4 (by omega), zc6 _ _ _ h3, d2 i h1, zc6 _ _ _ h2]
 have gA : ∀ i, c.length <= i -> i < (A c).length -> C[i]? = (A c)[i]? := fun i h1 h2 => by
  rw [g5 i (by omega) (by omega) (by omega) h1, x4 i (by omega), b2 i (by omega), y4 i h2]
 have gF : C[(A c).length]? = some ⟨13, (c4.length : Nat), []⟩ := by
  have e : (A c).length = c2.length - 1 := by omega
  rw [hC _ a1 (by omega), zc6 _ _ _ (by omega), d2 _ (by omega), e];exact zhe (x := ⟨13, 0, []⟩) (by rw [<- e, x4 _ (by omega), b2 _ (by omega), y3])
 have gB : ∀ i, c2.length <= i -> i < (B c2).length -> C[i]? = (B c2)[i]? := fun i h1 h2 => by
  rw [g5 i (by omega) (by omega) (by omega) (by omega), x4 i h2]
 have gJ : C[(B c2).length]? = some ⟨12, (c6.length : Nat), []⟩ := by
  have e : (B c2).length = c4.length - 1 := by omega
  rw [hC _ (by omega) (by omega), e];exact zhe (x := ⟨12, 0, []⟩) (by rw [<- e, d2 _ (by omega), zc6 _ _ _ (by omega), x3])
 have gD : ∀ i, c4.length <= i -> i < c6.length -> C[i]? = c6[i]? := fun i h1 h2 => by
  rw [hC i (by omega) h2, zc6 _ _ _ (by omega)]
 obtain ⟨HA, s1, s2, s3⟩ := hA c C h (by omega) gA h0;obtain ⟨HB, t1, t2, t3⟩ := hB c2 C h (by omega) gB h0;obtain ⟨HD, u1, u2, u3⟩ := hD' h (by omega) gD h0;have l1 := s1.lt; have l2 := t1.lt; have l3 := u1.lt;generalize (A c).length = la at *;generalize (B c2).length = lb at *;have n13 : zdJ ⟨13, (c4.length : Nat), []⟩ la = [la + 1, c4.length] := by simp [zdJ]
 have n12 : zdJ ⟨12, (c6.length : Nat), []⟩ lb = [c6.length] := by simp [zdJ]
 refine ⟨fun i => if i <= la then HA i else if i <= lb then HB i else HD i, ⟨by omega, fun i h1 h2 => ?_, fun k h1 h2 => ?_⟩, by simp only [a1, if_true]; exact s2, by
  simp only;rw [if_neg (by omega), if_neg (by omega)]; exact u3⟩
 ·by_cases i1 : i < la
  ·obtain ⟨x, w1, w2, w3, w4, w5, w6⟩ := s1.ok i h1 i1;refine ⟨x, w1, w2, zl8 w3 (by omega), by rw [if_pos (by omega)]; exact w4, by rw [if_pos (by omega)]; exact w5, fun k hk => ?_⟩;obtain ⟨k1, k2, k3⟩ := w6 k hk;exact ⟨k1, by omega, by rw [if_pos k2, if_pos (by omega)]; exact k3⟩
  by_cases i2 : i = la
  ·subst i2;refine ⟨_, gF, by simp, by simp [zdx]; omega, by simp [s3]; omega, by simp [s3, zct]; omega, fun k hk => ?_⟩;rw [n13] at hk;simp only [List.mem_cons, List.not_mem_nil, or_false] at hk;simp only [Nat.le_refl, if_true, s3];rcases hk with rfl | rfl
   ·refine ⟨by omega, by omega, ?_⟩;rw [if_neg (by omega), if_pos (by omega), <- y2, t2]; simp [zct, zbk]
   ·refine ⟨by omega, by omega, ?_⟩;rw [if_neg (by omega), if_neg (by omega), u2]; simp [zct, zbk]
  by_cases i3 : i < lb
  ·obtain ⟨x, w1, w2, w3, w4, w5, w6⟩ := t1.ok i (by omega) i3;refine ⟨x, w1, w2, zl8 w3 (by omega), by rw [if_neg (by omega), if_pos (by omega)]; exact w4, by rw [if_neg (by omega), if_pos (by omega)]; exact w5, fun k hk => ?_⟩;obtain ⟨k1, k2, k3⟩ := w6 k hk;exact ⟨k1, by omega, by rw [if_neg (by omega), if_pos k2, if_neg (by omega), if_pos (by omega)]; exact k3⟩
  by_cases i4 : i = lb
  ·subst i4;refine ⟨_, gJ, by simp, by simp [zdx]; omega, by rw [if_neg (by omega), if_pos (Nat.le_refl _), t3]; omega, by rw [if_neg (by omega), if_pos (Nat.le_refl _), t3]; simp [zct]; omega, fun k hk => ?_⟩;rw [n12] at hk;simp only [List.mem_cons, List.not_mem_nil, or_false] at hk;subst hk;refine ⟨by omega, by omega, ?_⟩;rw [if_neg (by omega), if_neg (by omega), if_neg (by omega), if_pos (Nat.le_refl _), t3, u3]; simp [zct, zbk]
  ·obtain ⟨x, w1, w2, w3, w4, w5, w6⟩ := u1.ok i (by omega) h2;refine ⟨x, w1, w2, w3, by rw [if_neg (by omega), if_neg (by omega)]; exact w4, by rw [if_neg (by omega), if_neg (by omega)]; exact w5, fun k hk => ?_⟩;obtain ⟨k1, k2, k3⟩ := w6 k hk;exact ⟨k1, k2, by rw [if_neg (by omega), if_neg (by omega), if_neg (by omega), if_neg (by omega)]; exact k3⟩
 ·by_cases k1 : k <= la
  ·exact s1.reach k h1 k1
  by_cases k2 : k = la + 1
  ·exact ⟨la, _, a1, by omega, gF, by rw [n13]; simp [k2]⟩
  by_cases k3 : k <= lb
  ·obtain ⟨i, x, r1, r2, r3, r4⟩ := t1.reach k (by omega) k3;exact ⟨i, x, by omega, r2, r3, r4⟩
  by_cases k4 : k = c4.length
  ·exact ⟨la, _, a1, by omega, gF, by rw [n13]; simp [k4]⟩
  ·obtain ⟨i, x, r1, r2, r3, r4⟩ := u1.reach k (by omega) h2;exact ⟨i, x, by omega, r2, r3, r4⟩
theorem Hgt.num {a : Int} (h : -1099511627776 <= a) (h' : a <= 1099511627776) : Hgt fun c => zb4 c ⟨0, a, []⟩ :=
 Hgt.put (by simp) (by simp) (by simp) (fun i => by simp [zdx]; omega) (by simp [zct]) (by simp [zbk])
theorem Hgt.name {s : List UInt8} (h : zf8 s = true) : Hgt fun c => zb4 c ⟨1, 0, s⟩ :=
 Hgt.put (by simp) (by simp) (by simp) (fun i => by simp [zdx, h]) (by simp [zct]) (by simp [zbk])
theorem Hgt.not {F : Code -> Code} (hF : Hgt F) (pF : Pre F) : Hgt fun c => zb4 (F c) ⟨11, 0, []⟩ :=
 hF.then pF (by simp) (by simp) (by simp) (fun i => by simp [zdx]) (by simp [zct]) (by simp [zbk])
theorem Hgt.truth {F : Code -> Code} (hF : Hgt F) (pF : Pre F) : Hgt fun c => zdq (F c) := (hF.not pF).not (pF.comp (Pre.put _))
theorem Hgt.bin {F G : Code -> Code} {op : Int} (hF : Hgt F) (hG : Hgt G) (pF : Pre F) (pG : Pre G) (h : 2 <= op) (h' : op <= 10) : Hgt fun c => zb4 (G (F c)) ⟨op, 0, []⟩ :=
 hF.two hG pF pG (by simp; omega) (by simp; omega) (by simp; omega) (fun i => by
  simp only [zdx];rw [if_neg (by omega), if_neg (by omega), if_neg (by omega)];simp; omega) (by simp only [zct]; rw [if_neg (by omega), if_neg (by omega)]) (by simp only [zbk]; rw [if_neg (by omega)])
end Go.Proofs.YtkdhmbhbbciedaaGreatDoor
namespace Go.Proofs.YtkdhmbhbbciedaaGreatDoor
open Go Go.VL
theorem zmH {l : Code} {i : Nat} (h : rgo l i = none) : ∀ k, rgo l (i + k) = none
 | 0 => h
 | k + 1 => by rw [<- Nat.add_assoc, rgo, zmH h k]; rfl
def hi1 (n i : Nat) : List Int := 0 :: (List.replicate i (-1) ++ List.replicate (n - i) 0)
theorem zq9 (n : Nat) : hi1 n 0 = List.replicate (n + 1) 0 := by simp [hi1, List.replicate_succ]
theorem zl4 {n i : Nat} (h : i < n) : (hi1 n i).set (i + 1) (-1) = hi1 n (i + 1) := by
 unfold hi1;rw [List.set_cons_succ, List.set_append_right _ _ (by simp), List.length_replicate, Nat.sub_self];have : n - i = (n - (i + 1)) + 1 := by omega
 rw [this, List.replicate_succ, List.set_cons_zero]
 congr 1
 rw [List.replicate_succ', List.append_assoc];rfl
theorem zl5 {n i : Nat} (h : i <= n) : (hi1 n i).length = n + 1 := by simp [hi1]; omega
theorem zsK (n : Nat) : hi1 n n = 0 :: List.replicate n (-1) := by simp [hi1]
structure HiAt (l : Code) where
 i : Nat
 hi : List Int
 hle : i <= l.length
 go : rgo l i = some hi
 len : hi.length = l.length + 1
 lo : ∀ z ∈ hi, -1 <= z /\ z <= i
theorem zn1 {l : Code} (h : ∀ j x, l[j]? = some x -> zdx x j l.length = true) : zgh l = true := by
 refine List.all_eq_true.2 fun i _ => ?_;cases hx : l[i]? with
 | none => rfl
 | some x => exact h i x hx
theorem zsB {l : Code} (hf : zgh l = true) {i : Nat} {x : Ins} (hx : l[i]? = some x) : ∀ k ∈ zdJ x i, i < k /\ k <= l.length := by
 have h := zfG hf hx;have hi := (List.getElem?_eq_some_iff.1 hx).1;intro k hk;unfold zdJ at hk;unfold zdx at h;by_cases h14 : x.op = 14
 ·simp [h14] at hk
 by_cases h12 : x.op = 12
 ·simp [h12] at hk h;omega
 by_cases h13 : x.op = 13
 ·simp [h13] at hk h;omega
 ·simp [h12, h13, h14] at hk;omega
structure NxAt (ks : List Nat) (h : Int) (hi : List Int) (i : Nat) where
 j : Nat
 hj : List Int
 hle : j <= ks.length
 go : zg6 h ks hi = zg6 h (ks.drop j) hj
 len : hj.length = hi.length
 at_i : hj[i]? = hi[i]?
 lo : ∀ z ∈ hj, -1 <= z /\ z <= i + 1
theorem zqL (op : Int) : 0 <= zct op /\ zct op <= 2 := by
 unfold zct;split
 ·omega
 ·split <;> omega
theorem znP (op : Int) : 0 <= zbk op /\ zbk op <= 1 := by unfold zbk; split <;> omega
theorem zqC {l : Code} {i : Nat} {hi : List Int} {y : Ins} {v : Int} (go : rgo l i = some hi) (hy : l[i]? = some y) (hv : hi[i]? = some v) : rgo l (i + 1) = if v < 0 then some hi
  else if v < zct y.op \/ (y.op = 14 /\ v ≠ 1) then none else zg6 (v - zct y.op + zbk y.op) (zdJ y i) hi := by
 have : hi.getD i (-1) = v := by simp [List.getD, hv]
 rw [rgo, go];show zoN l i hi = _;unfold zoN;rw [hy, this]
theorem ziJ {l : Code} {i : Nat} (h : rgo l (i + 1) = none) (hi : i < l.length) : zb8 l = false := by
 have := zmH h (l.length - (i + 1));rw [show i + 1 + (l.length - (i + 1)) = l.length by omega] at this;unfold zb8;rw [this];simp
theorem znt {h : Int} {ks : List Nat} {hi : List Int} {j k : Nat} (hk : ks[j]? = some k) : zg6 h (ks.drop j) hi = (ztG hi k h).bind (zg6 h (ks.drop (j + 1))) := by
 obtain ⟨h1, h2⟩ := List.getElem?_eq_some_iff.1 hk;rw [List.drop_eq_getElem_cons h1, h2, zg6]
end Go.Proofs.YtkdhmbhbbciedaaGreatDoor
namespace Go.Proofs.YtkdhmbhbbciedaaGreatDoor
open Go Go.VL
def wordsL : List (List UInt8) := [[110, 117, 109], [110, 97, 109, 101], [97, 100, 100], [115, 117, 98], [109, 117, 108], [100, 105, 118], [115, 99, 97, 108, 101], [109, 105, 110], [109, 97, 120], [108, 101, 115, 115], [101, 113], [110, 111, 116], [106, 117, 109, 112], [102, 97, 108, 115, 101], [101, 110, 100]]
def zd8 (op : Int) : List UInt8 := wordsL.getD op.toNat []
def zfr (x : Ins) : List UInt8 := zd8 x.op ++ (if x.op = 0 \/ x.op = 12 \/ x.op = 13 then 32 :: Lib.itoa x.a else if x.op = 1 then 32 :: x.s else []) ++ [10]
def zdu (l : Code) : List UInt8 := (l.map zfr).flatten
end Go.Proofs.YtkdhmbhbbciedaaGreatDoor
namespace Go.Proofs.YtkdhmbhbbciedaaGreatDoor
open Go Go.VL
abbrev zdF (c : Code) : List (List D) := c.map fun i => [.u (.int .i64 i.op), .u (.int .i64 i.a), .u (.str i.s)]
abbrev cOb (lets : List Let) (shs : List Bool) (q : Nat) (c : Code) : Ob := .box [.u (zaB lets), .u (zaI shs), .vec q c.length]
abbrev kOb (c : Code) : Ob := .vec 44 3 (zdF c)
theorem zhY (c : Code) : zot 3 (zdF c) := by intro r hr; obtain ⟨i, _, rfl⟩ := List.mem_map.1 hr; rfl
theorem zbB (c : Code) : zaN (zdF c) := by
 induction c with
 | nil => simp [zdF, zaN]
 | cons a l ih => simp only [zdF] at ih; simp [zdF, zaN, zbn, ih]
theorem zq6 (c : Code) (j : Nat) (x : Ins) : (zdF c).set j [.u (.int .i64 x.op), .u (.int .i64 x.a), .u (.str x.s)] = zdF (c.set j x) := by simp [zdF]
theorem zsH {c : Code} {j : Nat} {x : Ins} (h : c[j]? = some x) : (zdF c)[j]? = some [.u (.int .i64 x.op), .u (.int .i64 x.a), .u (.str x.s)] := by simp [zdF, h]
theorem ze1 (c : Code) : (zdF c).length = c.length := by simp [zdF]
end Go.Proofs.YtkdhmbhbbciedaaGreatDoor
namespace Go.Proofs.YtkdhmbhbbciedaaGreatDoor
open Go Go.VL
def Cap (F : Code -> Code) : Prop := ∀ c : Code, c.length <= 2001 -> (F c).length <= 2001
theorem Cap.put (x : Ins) : Cap fun c => zb4 c x := fun c h => by
 show (zb4 c x).length <= 2001;rw [zfz]; split <;> omega
theorem Cap.comp {F G : Code -> Code} (hF : Cap F) (hG : Cap G) : Cap fun c => G (F c) := fun c h => hG _ (hF c h)
theorem Cap.truth : Cap zdq := (Cap.put _).comp (Cap.put _)
theorem Cap.choice {A B D : Code -> Code} (hA : Cap A) (hB : Cap B) (hD : Cap D) : Cap (zbI A B D) := fun c h => by
 unfold zbI;rw [zbO];refine hD _ ?_;rw [zbO];exact Cap.put _ _ (hB _ (Cap.put _ _ (hA c h)))
mutual
theorem zgg {nm : List UInt8 -> Code -> Code} {sh : Exp -> Bool} (hn : ∀ s, Cap (nm s)) : ∀ e : Exp, Cap (zev nm sh e)
 | .mk op n u s args => fun c hc2 => by
  have h := fun i => zm0 (sh := sh) hn args i;have hA := zjQ (sh := sh) hn args;rw [zev];simp only;split
  ·exact hc2
  split
  ·exact Cap.put _ c hc2
  split
  ·exact hn s c hc2
  split
  ·exact Cap.choice (h 0) ((h 1).comp Cap.truth) (Cap.put _) c hc2
  split
  ·exact Cap.choice (h 0) (Cap.put _) ((h 1).comp Cap.truth) c hc2
  split
  ·exact Cap.choice (h 0) (h 1) (h 2) c hc2
  ·exact (hA.comp (Cap.put _)) c hc2
theorem zm0 {nm : List UInt8 -> Code -> Code} {sh : Exp -> Bool} (hn : ∀ s, Cap (nm s)) : ∀ (l : List Exp) (i : Nat), Cap (zf1 nm sh l i)
 | [], i => by rw [zf1]; exact fun _ h => h
 | e :: l, 0 => by rw [zf1]; exact zgg hn e
 | e :: l, i + 1 => by rw [zf1]; exact zm0 hn l i
theorem zjQ {nm : List UInt8 -> Code -> Code} {sh : Exp -> Bool} (hn : ∀ s, Cap (nm s)) : ∀ (l : List Exp), Cap (zfF nm sh l)
 | [] => by rw [zfF]; exact fun _ h => h
 | e :: l => by rw [zfF]; exact (zgg hn e).comp (zjQ hn l)
end
theorem zhM {lets sh} : ∀ (n : Nat) (s : List UInt8), Cap (nmC lets sh n s)
 | 0, s => by rw [nmC]; exact Cap.put _
 | n + 1, s => by
  rw [nmC];split
  ·exact Cap.put _
  ·split
   ·exact zgg (zhM n) _
   ·exact zhM n s
def ExpX (lets : List Let) (shs : List Bool) (m n : Nat) (e : Exp) (F : Code -> Code) : Prop := ∀ (c : Code) (q nx : Nat), m < nx -> q < nx -> m ≠ q -> c.length <= 2001 -> RetX Tryz.prog 36 [.ptr m 0, .u (.int .i64 n), zcC e] [(m, cOb lets shs q c), (q, kOb c)] nx
  fun r o n' => r = .val (.tup []) /\ o = [(m, cOb lets shs nx (F c)), (nx, kOb (F c))] /\ n' = nx + 1
def zuD (lets : List Let) (shs : List Bool) (m n : Nat) (e : Exp) (F : Code -> Code) : Prop := ∀ (c : Code) (q nx : Nat), m < nx -> q < nx -> m ≠ q -> c.length <= 2001 -> RetX Tryz.prog 67 [.ptr m 0, .u (.int .i64 n), zcC e] [(m, cOb lets shs q c), (q, kOb c)] nx
  fun r o n' => r = .val (.tup []) /\ o = [(m, cOb lets shs nx (F c)), (nx, kOb (F c))] /\ n' = nx + 1
end Go.Proofs.YtkdhmbhbbciedaaGreatDoor
namespace Go.Proofs.YtkdhmbhbbciedaaGreatDoor
open Go Go.VL
theorem zeR (c : Code) : zcx (zdF c) = some (c.map fun i => [.int .i64 i.op, .int .i64 i.a, .str i.s]) := by
 have : zdF c = (c.map fun i => [U.int .i64 i.op, .int .i64 i.a, .str i.s]).map (·.map D.u) := by simp [zdF]
 rw [this, zgq]
theorem zhX (c : Code) : (zdF c).take c.length = zdF c := by rw [<- ze1, List.take_length]
theorem zmL {lets : List Let} {sh : Nat -> Exp -> Bool} (s : List UInt8) : ∀ {n : Nat}, n <= lets.length -> nmC lets sh n s = match zfM lets n s with | none => fun c => zb4 c ⟨1, 0, s⟩ | some i => match lets[i]? with | some l => zev (nmC lets sh i) (sh i) l.body | none => fun c => c
 | 0, _ => by rw [nmC]; rfl
 | n + 1, h => by
  have hl : lets[n]? = some lets[n] := List.getElem?_eq_getElem (by omega);rw [nmC, zfM, hl];simp only;by_cases hs : lets[n].name = s
  ·rw [if_pos hs, if_pos hs];simp only [hl]
  ·rw [if_neg hs, if_neg hs];exact zmL s (by omega)
end Go.Proofs.YtkdhmbhbbciedaaGreatDoor
namespace Go.Proofs.YtkdhmbhbbciedaaGreatDoor
open Go Go.VL
abbrev zqV (l : Let) : List U := [.str l.name, .int .i64 l.body.op, .int .i64 l.body.n, .int .i64 l.body.unit, .str l.body.s, .sl (l.body.args.map Exp.row)]
end Go.Proofs.YtkdhmbhbbciedaaGreatDoor
namespace Go.Proofs.YtkdhmbhbbciedaaGreatDoor
open Go Go.VL
theorem zjw {sh : Exp -> Bool} {op : Int} {args : List Exp} (h : op ≠ 12) : 2 <= zaT sh op args /\ zaT sh op args <= 10 := by
 unfold zaT
 repeat' split
 all_goals omega
theorem zd3 {nm : List UInt8 -> Code -> Code} {sh : Exp -> Bool} (hn : ∀ s, Pre (nm s)) (hN : ∀ s, zf8 s = true -> Hgt (nm s)) :
  ∀ (d : Nat) (e : Exp), za0 d e = true -> Hgt (zev nm sh e)
 | 0, e, h => by simp [za0] at h
 | d + 1, e, h => by
  obtain ⟨h1, h2, h3, h4⟩ := zdj h;have hpre := fun x => zgf (nm := nm) (sh := sh) hn x
  suffices hs : ∀ (F : Code -> Code), (∀ c : Code, c.length <= 2000 -> zev nm sh e c = F c) -> Hgt F -> Hgt (zev nm sh e) by
   have hb := h;rw [za0] at hb;simp only [Bool.and_eq_true] at hb;by_cases h0 : e.op = 0
   ·have hnum := hb.2;rw [if_pos h0] at hnum;simp only [zuL, Bool.and_eq_true, decide_eq_true_eq] at hnum;refine hs _ (fun c hc => ?_) (Hgt.num (a := e.n) (by omega) (by have := hnum.2; split at this <;> omega));rw [zd4, if_neg (by omega), if_pos h0]
   by_cases hnm : e.op = 1
   ·have hname := hb.2;rw [if_neg h0] at hname;have hnu : ¬ (e.n ≠ 0 \/ e.unit ≠ 0) := fun hnu => by rw [if_pos hnu] at hname; cases hname
    rw [if_neg hnu, if_pos hnm] at hname;refine hs _ (fun c hc => ?_) (hN e.s hname);rw [zd4, if_neg (by omega), if_neg h0, if_pos hnm]
   have hr := h4 h0 hnm;have two : ∀ {n : Nat}, zbt e.op = n -> e.args.length = n := fun hq => by rw [hq] at h1; omega
   by_cases hA : e.op = 10
   ·match hq : e.args, two (n := 2) (by rw [hA]; rfl) with
    | [a, b], _ =>
     have ga := zd3 (sh := sh) hn hN d a (hr a (by simp [hq]));have gb := zd3 (sh := sh) hn hN d b (hr b (by simp [hq]));refine hs (zbI (zev nm sh a) (fun c => zdq (zev nm sh b c)) (fun c => zb4 c ⟨0, 0, []⟩)) (fun c hc => ?_) (Hgt.choice ga (gb.truth (hpre b)) (Hgt.num (by omega) (by omega)) (hpre a) ((hpre b).comp Pre.truth) (Pre.put _));rw [zd4, if_neg (by omega), if_neg h0, if_neg hnm, if_pos hA, hq, zdw (i := 0) (e := a) rfl, zdw (i := 1) (e := b) rfl]
   by_cases hO : e.op = 11
   ·match hq : e.args, two (n := 2) (by rw [hO]; rfl) with
    | [a, b], _ =>
     have ga := zd3 (sh := sh) hn hN d a (hr a (by simp [hq]));have gb := zd3 (sh := sh) hn hN d b (hr b (by simp [hq]));refine hs (zbI (zev nm sh a) (fun c => zb4 c ⟨0, 1, []⟩) (fun c => zdq (zev nm sh b c))) (fun c hc => ?_) (Hgt.choice ga (Hgt.num (by omega) (by omega)) (gb.truth (hpre b)) (hpre a) (Pre.put _) ((hpre b).comp Pre.truth));rw [zd4, if_neg (by omega), if_neg h0, if_neg hnm, if_neg hA, if_pos hO, hq, zdw (i := 0) (e := a) rfl, zdw (i := 1) (e := b) rfl]
   by_cases hI : e.op = 13
   ·match hq : e.args, two (n := 3) (by rw [hI]; rfl) with
    | [a, b, x], _ =>
     have ga := zd3 (sh := sh) hn hN d a (hr a (by simp [hq]));have gb := zd3 (sh := sh) hn hN d b (hr b (by simp [hq]));have gx := zd3 (sh := sh) hn hN d x (hr x (by simp [hq]));refine hs (zbI (zev nm sh a) (zev nm sh b) (zev nm sh x)) (fun c hc => ?_) (Hgt.choice ga gb gx (hpre a) (hpre b) (hpre x));rw [zd4, if_neg (by omega), if_neg h0, if_neg hnm, if_neg hA, if_neg hO, if_pos hI, hq, zdw (i := 0) (e := a) rfl, zdw (i := 1) (e := b) rfl, zdw (i := 2) (e := x) rfl]
   have hg : ∀ c : Code, c.length <= 2000 -> zev nm sh e c = zb4 (zfF nm sh e.args c) ⟨zaT sh e.op e.args, 0, []⟩ := fun c hc => by
    rw [zd4, if_neg (by omega), if_neg h0, if_neg hnm, if_neg hA, if_neg hO, if_neg hI]
   by_cases hT : e.op = 12
   ·match hq : e.args, two (n := 1) (by rw [hT]; rfl) with
    | [a], _ =>
     have ga := zd3 (sh := sh) hn hN d a (hr a (by simp [hq]));refine hs (fun c => zb4 (zev nm sh a c) ⟨11, 0, []⟩) (fun c hc => ?_) (ga.not (hpre a));rw [hg c hc, hq, zfF, zfF];simp [zaT, hT]
   ·match hq : e.args, two (n := 2) (by
      have h5 := h2; have h6 := h3;have : e.op = 2 \/ e.op = 3 \/ e.op = 4 \/ e.op = 5 \/ e.op = 6 \/ e.op = 7 \/ e.op = 8 \/ e.op = 9 := by omega
      rcases this with h | h | h | h | h | h | h | h <;> rw [h] <;> rfl) with
    | [a, b], _ =>
     have ga := zd3 (sh := sh) hn hN d a (hr a (by simp [hq]));have gb := zd3 (sh := sh) hn hN d b (hr b (by simp [hq]));obtain ⟨o1, o2⟩ := zjw (sh := sh) (op := e.op) (args := e.args) hT;refine hs (fun c => zb4 (zev nm sh b (zev nm sh a c)) ⟨zaT sh e.op e.args, 0, []⟩) (fun c hc => ?_) (Hgt.bin ga gb (hpre a) (hpre b) o1 o2);rw [hg c hc, hq, zfF, zfF, zfF]
  intro F hF hH c C h hl hC h0;by_cases hc : c.length <= 2000
  ·rw [hF c hc] at hl hC ⊢;exact hH c C h hl hC h0
  ·have := (hpre e c).1;omega
theorem zo2 {lets : List Let} {sh : Nat -> Exp -> Bool} (hr : ∀ l ∈ lets, za0 12 l.body = true) : ∀ (n : Nat) (s : List UInt8), zf8 s = true -> Hgt (nmC lets sh n s)
 | 0, s, h => by rw [nmC]; exact Hgt.name h
 | n + 1, s, h => by
  rw [nmC];split
  ·exact Hgt.name h
  ·rename_i l hl;split
   ·exact zd3 (fun t => zhL n t) (fun t ht => zo2 hr n t ht) 12 l.body (hr l (List.mem_of_getElem? hl))
   ·exact zo2 hr n s h
theorem zg2 {lets : List Let} {e : Exp} (hr : zbh lets e = true) (hl : (zen lets e).length < 2000) : ∃ H, Hts (zen lets e ++ [⟨14, 0, []⟩]) H /\ zgh (zen lets e ++ [⟨14, 0, []⟩]) = true /\
  ∀ (i : Nat) (x : Ins), (zen lets e)[i]? = some x -> Vm.Ins.op x ≠ 14 := by
 obtain ⟨_, h2, h3⟩ := zeI hr;have hC : (zev (nmC lets (shF lets) lets.length) (shF lets lets.length) e []) = zen lets e := rfl;obtain ⟨H, s, e1, e2⟩ := zd3 (sh := shF lets lets.length) (fun t => zhL (sh := shF lets) lets.length t) (fun t ht => zo2 (sh := shF lets) h3 lets.length t ht) 12 e h2 [] (zen lets e ++ [⟨14, 0, []⟩]) 0 (Nat.le_of_lt hl) (fun i _ hi => List.getElem?_append_left hi) (by omega);rw [hC] at s e2;simp only [List.length_nil] at s e1;generalize zen lets e = L at *;have hend : (L ++ [⟨14, 0, []⟩] : Code)[L.length]? = some ⟨14, 0, []⟩ := by simp
 have hlen : (L ++ [⟨14, 0, []⟩] : Code).length = L.length + 1 := by simp
 refine ⟨H, ⟨e1, fun i x hx => ?_, fun k h1 h4 => ?_⟩, ?_, fun i x hx => ?_⟩
 ·by_cases hi : i < L.length
  ·obtain ⟨y, w1, w2, w3, w4, w5, w6⟩ := s.ok i (by omega) hi;rw [w1] at hx;cases hx;refine ⟨w4, w5, fun h14 => absurd h14 w2, fun k hk => ?_⟩;obtain ⟨k1, k2, k3⟩ := w6 k hk;exact ⟨k1, by omega, k3⟩
  ·have hi2 := (List.getElem?_eq_some_iff.1 hx).1;obtain rfl : i = L.length := by omega
   rw [hend] at hx;cases hx;rw [e2];exact ⟨by omega, by simp [zct], fun _ => by omega, fun k hk => by simp [zdJ] at hk⟩
 ·obtain ⟨i, x, r1, r2, r3, r4⟩ := s.reach k h1 (by omega);exact ⟨i, x, r2, r3, r4⟩
 ·refine List.all_eq_true.2 fun i hi => ?_;rw [List.mem_range, hlen] at hi;by_cases hi2 : i < L.length
  ·obtain ⟨y, w1, w2, w3, _⟩ := s.ok i (by omega) hi2;rw [w1, hlen];exact w3
  ·obtain rfl : i = L.length := by omega
   rw [hend];simp [zdx]
 ·have hi := (List.getElem?_eq_some_iff.1 hx).1;obtain ⟨y, w1, w2, _⟩ := s.ok i (by omega) hi;rw [List.getElem?_append_left hi, hx] at w1;cases w1;exact w2
theorem zn9 {lets : List Let} {e : Exp} (hr : zbh lets e = true) (hl : (zen lets e).length < 2000) : zb8 (zen lets e ++ [⟨14, 0, []⟩]) = true := by
 obtain ⟨H, h1, h2, _⟩ := zg2 hr hl;exact zqA h1 (by simp) (by simp; omega) h2
end Go.Proofs.YtkdhmbhbbciedaaGreatDoor
namespace Go.Proofs.YtkdhmbhbbciedaaGreatDoor
open Go Go.VL
def mvI (n : Nat) (x : Ins) : Ins := if x.op = 12 \/ x.op = 13 then { x with a := x.a + n } else x
def mvC (n : Nat) (l : Code) : Code := l.map (mvI n)
theorem zsC (a b : Nat) (x : Ins) : mvI a (mvI b x) = mvI (a + b) x := by
 unfold mvI;by_cases h : x.op = 12 \/ x.op = 13
 ·simp only [h, if_true]
  congr 1
  omega
 ·simp only [h, if_false]
theorem zlV (a b : Nat) (l : Code) : mvC a (mvC b l) = mvC (a + b) l := by simp [mvC, zsC]
theorem zcV (a : Nat) (l : Code) : (mvC a l).length = l.length := by simp [mvC]
theorem zlW (a : Nat) (l m : Code) : mvC a (l ++ m) = mvC a l ++ mvC a m := by simp [mvC]
theorem zqN (l : Code) : mvC 0 l = l := by
 unfold mvC
 conv => rhs; rw [<- List.map_id l]
 refine List.map_congr_left fun x _ => ?_;unfold mvI;split
 ·simp
 ·rfl
theorem zo6 {n : Nat} {x : Ins} (h : x.op ≠ 12) (h' : x.op ≠ 13) : mvC n [x] = [x] := by simp [mvC, mvI, h, h']
def Rel (F : Code -> Code) (L : Code) : Prop := ∀ c : Code, (c.length + L.length <= 2000 -> F c = c ++ mvC c.length L) /\ ((F c).length <= 2000 -> c.length + L.length <= 2000)
theorem Rel.id : Rel (fun c => c) [] := fun c => ⟨fun _ => by simp [mvC], fun h => by simpa using h⟩
theorem Rel.put {x : Ins} (h : x.op ≠ 12) (h' : x.op ≠ 13) : Rel (fun c => zb4 c x) [x] := fun c => ⟨fun hl => by
 simp only [List.length_cons, List.length_nil] at hl;simp only [zb4];rw [if_pos (by omega), zo6 h h'], fun hl => by
 have := zes hl;simp only [List.length_cons, List.length_nil]; omega⟩
theorem Rel.comp {F G : Code -> Code} {L M : Code} (hF : Rel F L) (hG : Rel G M) : Rel (fun c => G (F c)) (L ++ mvC L.length M) := fun c => by
 obtain ⟨f1, f2⟩ := hF c;obtain ⟨g1, g2⟩ := hG (F c);simp only [List.length_append, zcV];refine ⟨fun hl => ?_, fun hl => ?_⟩
 ·have e := f1 (by omega);have el : (F c).length = c.length + L.length := by rw [e]; simp [zcV]
  rw [g1 (by omega), el, e, zlW, zlV, List.append_assoc]
 ·have h1 := g2 hl;have h2 := f2 (by omega);have el : (F c).length = c.length + L.length := by rw [f1 h2]; simp [zcV]
  omega
theorem Rel.cast {F : Code -> Code} {L M : Code} (h : Rel F L) (e : L = M) : Rel F M := e ▸ h
def zeF (a b d : Code) : Code := a ++ ⟨13, (a.length + b.length + 2 : Nat), []⟩ :: (mvC (a.length + 1) b ++ ⟨12, (a.length + b.length + d.length + 2 : Nat), []⟩ :: mvC (a.length + b.length + 2) d)
theorem zmg (a b d : Code) : (zeF a b d).length = a.length + b.length + d.length + 2 := by simp [zeF, zcV]; omega
theorem zkY {x y : Code} {i : Ins} : zdK (x ++ i :: y) x.length = x ++ { i with a := ((x ++ i :: y : Code).length : Int) } :: y := by
 unfold zdK;rw [List.getElem?_append_right (Nat.le_refl _), Nat.sub_self];simp only [List.getElem?_cons_zero];rw [List.set_append_right _ _ (Nat.le_refl _), Nat.sub_self];rfl
theorem zmJ {c : Code} {x : Ins} (h : c.length <= 2000) : zb4 c x = c ++ [x] := if_pos h
theorem Rel.choice {A B D : Code -> Code} {a b d : Code} (hA : Rel A a) (hB : Rel B b) (hD : Rel D d) : Rel (zbI A B D) (zeF a b d) := fun c => by
 obtain ⟨a1, a2⟩ := hA c;rw [zmg];refine ⟨fun hl => ?_, fun hl => ?_⟩
 ·have ea := a1 (by omega);have la : (A c).length = c.length + a.length := by rw [ea]; simp [zcV]
  have e2 : zb4 (A c) ⟨13, 0, []⟩ = A c ++ [⟨13, 0, []⟩] := zmJ (by omega);have l2 : (zb4 (A c) ⟨13, 0, []⟩).length = c.length + a.length + 1 := by rw [e2]; simp; omega
  have e3 := (hB (zb4 (A c) ⟨13, 0, []⟩)).1 (by omega);have l3 : (B (zb4 (A c) ⟨13, 0, []⟩)).length = c.length + a.length + 1 + b.length := by rw [e3]; simp [zcV]; omega
  have e4 : zb4 (B (zb4 (A c) ⟨13, 0, []⟩)) ⟨12, 0, []⟩ = B (zb4 (A c) ⟨13, 0, []⟩) ++ [⟨12, 0, []⟩] := zmJ (by omega);have l4 : (zb4 (B (zb4 (A c) ⟨13, 0, []⟩)) ⟨12, 0, []⟩).length = c.length + a.length + b.length + 2 := by rw [e4]; simp; omega
  unfold zbI;rw [l2, l4];have e5 : zdK (zb4 (B (zb4 (A c) ⟨13, 0, []⟩)) ⟨12, 0, []⟩) (c.length + a.length + 1 - 1) = A c ++ ⟨13, (c.length + a.length + b.length + 2 : Nat), []⟩ :: (mvC (c.length + a.length + 1) b ++ [⟨12, 0, []⟩]) := by
   have : zb4 (B (zb4 (A c) ⟨13, 0, []⟩)) ⟨12, 0, []⟩ = A c ++ ⟨13, 0, []⟩ :: (mvC (c.length + a.length + 1) b ++ [⟨12, 0, []⟩]) := by
    rw [e4, e3, l2, e2]; simp
   rw [show c.length + a.length + 1 - 1 = (A c).length by omega];rw [this, zkY]
   congr 3
   simp [zcV, la]; omega
  rw [e5];generalize hc5 : (A c ++ ⟨13, ((c.length + a.length + b.length + 2 : Nat) : Int), []⟩ :: (mvC (c.length + a.length + 1) b ++ [⟨12, 0, []⟩]) : Code) = c5;have l5 : c5.length = c.length + a.length + b.length + 2 := by rw [<- hc5]; simp [zcV, la]; omega
  have e6 := (hD c5).1 (by omega);rw [e6, l5];have e7 : c5 ++ mvC (c.length + a.length + b.length + 2) d = (A c ++ ⟨13, ((c.length + a.length + b.length + 2 : Nat) : Int), []⟩ :: mvC (c.length + a.length + 1) b) ++ ⟨12, 0, []⟩ :: mvC (c.length + a.length + b.length + 2) d := by
   rw [<- hc5]; simp
  have l7 : (A c ++ ⟨13, ((c.length + a.length + b.length + 2 : Nat) : Int), []⟩ :: mvC (c.length + a.length + 1) b : Code).length = c.length + a.length + b.length + 2 - 1 := by simp [zcV, la]; omega
  have e8 := zkY (x := (A c ++ ⟨13, ((c.length + a.length + b.length + 2 : Nat) : Int), []⟩ :: mvC (c.length + a.length + 1) b : Code)) (i := ⟨12, 0, []⟩) (y := mvC (c.length + a.length + b.length + 2) d);rw [l7] at e8;have c1 : ∀ (n : Nat) (i : Ins) (l : Code), mvC n (i :: l) = mvI n i :: mvC n l := fun _ _ _ => rfl;have i13 : mvI c.length ⟨13, ((a.length + b.length + 2 : Nat) : Int), []⟩ = ⟨13, ((c.length + a.length + b.length + 2 : Nat) : Int), []⟩ := by simp [mvI]; omega
  have i12 : mvI c.length ⟨12, ((a.length + b.length + d.length + 2 : Nat) : Int), []⟩ = ⟨12, ((c.length + a.length + b.length + d.length + 2 : Nat) : Int), []⟩ := by simp [mvI]; omega
  have lt : (((A c ++ ⟨13, ((c.length + a.length + b.length + 2 : Nat) : Int), []⟩ :: mvC (c.length + a.length + 1) b : Code) ++ ⟨12, 0, []⟩ :: mvC (c.length + a.length + b.length + 2) d : Code).length : Int) = ((c.length + a.length + b.length + d.length + 2 : Nat) : Int) := by
   simp [zcV, la]; omega
  rw [lt] at e8;rw [e7, e8, ea];unfold zeF;rw [zlW, c1, zlW, c1, zlV, zlV, i13, i12, show c.length + (a.length + 1) = c.length + a.length + 1 by omega, show c.length + (a.length + b.length + 2) = c.length + a.length + b.length + 2 by omega];simp
 ·unfold zbI at hl;rw [zbO] at hl;have h1 := (hD _).2 hl;rw [zbO] at h1;have p4 := @zes (B (zb4 (A c) ⟨13, 0, []⟩)) ⟨12, 0, []⟩ (by omega);have h3 := (hB _).2 (by omega : (B (zb4 (A c) ⟨13, 0, []⟩)).length <= 2000);have l3 : (B (zb4 (A c) ⟨13, 0, []⟩)).length = (zb4 (A c) ⟨13, 0, []⟩).length + b.length := by rw [(hB _).1 h3]; simp [zcV]
  have p2 := @zes (A c) ⟨13, 0, []⟩ (by omega);have h2 := a2 (by omega);have la : (A c).length = c.length + a.length := by rw [a1 h2]; simp [zcV]
  omega
def ziC (l : Code) : Code := l ++ [⟨11, 0, []⟩, ⟨11, 0, []⟩]
theorem Rel.truth {F : Code -> Code} {L : Code} (h : Rel F L) : Rel (fun c => zdq (F c)) (ziC L) :=
 ((h.comp (Rel.put (x := ⟨11, 0, []⟩) (by simp) (by simp))).comp (Rel.put (x := ⟨11, 0, []⟩) (by simp) (by simp))).cast (by simp [ziC, mvC, mvI])
mutual
def zjP (nm : List UInt8 -> Code) (sh : Exp -> Bool) : Exp -> Code
 | .mk op n _ s args =>
  if op = 0 then [⟨0, n, []⟩]
  else if op = 1 then nm s
  else if op = 10 then zeF (zdW nm sh args 0) (ziC (zdW nm sh args 1)) [⟨0, 0, []⟩]
  else if op = 11 then zeF (zdW nm sh args 0) [⟨0, 1, []⟩] (ziC (zdW nm sh args 1))
  else if op = 13 then zeF (zdW nm sh args 0) (zdW nm sh args 1) (zdW nm sh args 2)
  else zfV nm sh args ++ [⟨zaT sh op args, 0, []⟩]
def zdW (nm : List UInt8 -> Code) (sh : Exp -> Bool) : List Exp -> Nat -> Code
 | [], _ => []
 | e :: _, 0 => zjP nm sh e
 | _ :: r, i + 1 => zdW nm sh r i
def zfV (nm : List UInt8 -> Code) (sh : Exp -> Bool) : List Exp -> Code
 | [] => []
 | e :: r => zjP nm sh e ++ mvC (zjP nm sh e).length (zfV nm sh r)
end
theorem znA {sh : Exp -> Bool} {op : Int} {args : List Exp} : zaT sh op args ≠ 12 /\ zaT sh op args ≠ 13 := by
 unfold zaT
 repeat' split
 all_goals omega
mutual
theorem zjO {nm : List UInt8 -> Code -> Code} {nl : List UInt8 -> Code} {sh : Exp -> Bool} (h : ∀ s, Rel (nm s) (nl s)) : ∀ e : Exp, Rel (zev nm sh e) (zjP nl sh e)
 | .mk op n u s args => by
  have hN := zmY (sh := sh) h args;have hA := zm1 (sh := sh) h args
  suffices hs : ∀ (F : Code -> Code), (∀ c : Code, c.length <= 2000 -> zev nm sh (.mk op n u s args) c = F c) -> Rel F (zjP nl sh (.mk op n u s args)) -> Rel (zev nm sh (.mk op n u s args)) (zjP nl sh (.mk op n u s args)) by
   rw [zjP] at hs ⊢;by_cases h0 : op = 0
   ·rw [if_pos h0] at hs ⊢;exact hs _ (fun c hc => by simp only [zev, if_neg (show ¬ 2000 < c.length by omega), if_pos h0]) (Rel.put (by simp) (by simp))
   rw [if_neg h0] at hs ⊢;by_cases h1 : op = 1
   ·rw [if_pos h1] at hs ⊢;exact hs _ (fun c hc => by simp only [zev, if_neg (show ¬ 2000 < c.length by omega), if_neg h0, if_pos h1]) (h s)
   rw [if_neg h1] at hs ⊢;by_cases h2 : op = 10
   ·rw [if_pos h2] at hs ⊢;exact hs _ (fun c hc => by simp only [zev, if_neg (show ¬ 2000 < c.length by omega), if_neg h0, if_neg h1, if_pos h2]) (Rel.choice (hN 0) (hN 1).truth (Rel.put (x := ⟨0, 0, []⟩) (by simp) (by simp)))
   rw [if_neg h2] at hs ⊢;by_cases h3 : op = 11
   ·rw [if_pos h3] at hs ⊢;exact hs _ (fun c hc => by simp only [zev, if_neg (show ¬ 2000 < c.length by omega), if_neg h0, if_neg h1, if_neg h2, if_pos h3]) (Rel.choice (hN 0) (Rel.put (x := ⟨0, 1, []⟩) (by simp) (by simp)) (hN 1).truth)
   rw [if_neg h3] at hs ⊢;by_cases h4 : op = 13
   ·rw [if_pos h4] at hs ⊢;exact hs _ (fun c hc => by simp only [zev, if_neg (show ¬ 2000 < c.length by omega), if_neg h0, if_neg h1, if_neg h2, if_neg h3, if_pos h4]) (Rel.choice (hN 0) (hN 1) (hN 2))
   rw [if_neg h4] at hs ⊢;refine hs (fun c => zb4 (zfF nm sh args c) ⟨zaT sh op args, 0, []⟩) (fun c hc => by simp only [zev, if_neg (show ¬ 2000 < c.length by omega), if_neg h0, if_neg h1, if_neg h2, if_neg h3, if_neg h4]) ?_;obtain ⟨o1, o2⟩ := znA (sh := sh) (op := op) (args := args);exact (hA.comp (Rel.put (x := ⟨zaT sh op args, 0, []⟩) o1 o2)).cast (by rw [zo6 (by exact o1) (by exact o2)])
  intro F hF hR c;have hpre := (hR c);by_cases hc : c.length <= 2000
  ·rw [hF c hc]; exact hR c
  ·refine ⟨fun hl => by omega, fun hl => ?_⟩;simp only [zev, if_pos (show 2000 < c.length by omega)] at hl;omega
theorem zmY {nm : List UInt8 -> Code -> Code} {nl : List UInt8 -> Code} {sh : Exp -> Bool} (h : ∀ s, Rel (nm s) (nl s)) : ∀ (l : List Exp) (i : Nat), Rel (zf1 nm sh l i) (zdW nl sh l i)
 | [], i => by rw [zf1, zdW]; exact Rel.id
 | e :: r, 0 => by rw [zf1, zdW]; exact zjO h e
 | e :: r, i + 1 => by rw [zf1, zdW]; exact zmY h r i
theorem zm1 {nm : List UInt8 -> Code -> Code} {nl : List UInt8 -> Code} {sh : Exp -> Bool} (h : ∀ s, Rel (nm s) (nl s)) : ∀ (l : List Exp), Rel (zfF nm sh l) (zfV nl sh l)
 | [] => by rw [zfF, zfV]; exact Rel.id
 | e :: r => by rw [zfF, zfV]; exact (zjO h e).comp (zm1 h r)
end
def nmL (lets : List Let) (sh : Nat -> Exp -> Bool) : Nat -> List UInt8 -> Code
 | 0, s => [⟨1, 0, s⟩]
 | n + 1, s => match lets[n]? with
  | none => [⟨1, 0, s⟩]
  | some l => if l.name = s then zjP (nmL lets sh n) (sh n) l.body else nmL lets sh n s
theorem zo1 {lets : List Let} {sh : Nat -> Exp -> Bool} : ∀ (n : Nat) (s : List UInt8), Rel (nmC lets sh n s) (nmL lets sh n s)
 | 0, s => by rw [nmC, nmL]; exact Rel.put (x := ⟨1, 0, s⟩) (by simp) (by simp)
 | n + 1, s => by
  rw [nmC, nmL];cases hl : lets[n]? with
  | none => exact Rel.put (x := ⟨1, 0, s⟩) (by simp) (by simp)
  | some l =>
   by_cases hn : l.name = s
   ·simp only [if_pos hn];exact zjO (fun t => zo1 (lets := lets) (sh := sh) n t) _
   ·simp only [if_neg hn];exact zo1 n s
def zeE (lets : List Let) (sh : Nat -> Exp -> Bool) (e : Exp) : Code := zjP (nmL lets sh lets.length) (sh lets.length) e
theorem zri (lets : List Let) (e : Exp) : ((zen lets e).length < 2000 ↔ (zeE lets (shF lets) e).length < 2000) /\ ((zen lets e).length < 2000 -> zen lets e = zeE lets (shF lets) e) := by
 have h := zjO (sh := shF lets lets.length) (fun s => zo1 (lets := lets) (sh := shF lets) lets.length s) e [];have h1 : (zeE lets (shF lets) e).length <= 2000 -> zen lets e = zeE lets (shF lets) e := fun hl => by
  have := h.1 (by simpa [zeE] using hl);rw [List.nil_append, List.length_nil, zqN] at this;exact this
 have h2 : (zen lets e).length <= 2000 -> (zeE lets (shF lets) e).length <= 2000 := fun hl => by simpa [zeE] using h.2 hl
 exact ⟨⟨fun hl => by rw [<- h1 (h2 (by omega))]; exact hl, fun hl => by rw [h1 (by omega)]; exact hl⟩, fun hl => h1 (h2 (by omega))⟩
end Go.Proofs.YtkdhmbhbbciedaaGreatDoor
namespace Go.Proofs.YtkdhmbhbbciedaaGreatDoor
open Go Go.VL
section
variable {m m' : List UInt8 -> Bool} {s : List UInt8}
end
theorem zfk (lets : List Let) (e : Exp) : zbh lets e = true ↔ lets.length <= 20 /\ za0 12 e = true /\ ∀ l ∈ lets, za0 12 l.body = true := by
 refine ⟨zeI, fun h => ?_⟩;simp only [zbh, Bool.and_eq_true, decide_eq_true_eq, Bool.not_eq_true', List.any_eq_false, Bool.not_eq_true];exact ⟨⟨h.1, h.2.1⟩, fun l hl => by simp [h.2.2 l hl]⟩
end Go.Proofs.YtkdhmbhbbciedaaGreatDoor
namespace Go.Proofs.YtkdhmbhbbciedaaGreatDoor
open Go Go.VL
theorem zl7 (nm : List UInt8 -> Code) (sh : Exp -> Bool) (e : Exp) : zjP nm sh e = if e.op = 0 then [⟨0, e.n, []⟩]
  else if e.op = 1 then nm e.s
  else if e.op = 10 then zeF (zdW nm sh e.args 0) (ziC (zdW nm sh e.args 1)) [⟨0, 0, []⟩]
  else if e.op = 11 then zeF (zdW nm sh e.args 0) [⟨0, 1, []⟩] (ziC (zdW nm sh e.args 1))
  else if e.op = 13 then zeF (zdW nm sh e.args 0) (zdW nm sh e.args 1) (zdW nm sh e.args 2)
  else zfV nm sh e.args ++ [⟨zaT sh e.op e.args, 0, []⟩] := by
 cases e with | mk op n u s args => rw [zjP]; rfl
theorem zk4 {nm nm' : List UInt8 -> Code} {sh sh' : Exp -> Bool} {f : Exp -> Exp} : ∀ {l : List Exp}, (∀ x ∈ l, zjP nm sh (f x) = zjP nm' sh' x) -> ∀ i, zdW nm sh (l.map f) i = zdW nm' sh' l i
 | [], _, i => by rw [List.map_nil, zdW, zdW]
 | e :: r, h, 0 => by rw [List.map_cons, zdW, zdW]; exact h e (by simp)
 | e :: r, h, i + 1 => by rw [List.map_cons, zdW, zdW]; exact zk4 (fun x hx => h x (by simp [hx])) i
theorem zk5 {nm nm' : List UInt8 -> Code} {sh sh' : Exp -> Bool} {f : Exp -> Exp} : ∀ {l : List Exp}, (∀ x ∈ l, zjP nm sh (f x) = zjP nm' sh' x) -> zfV nm sh (l.map f) = zfV nm' sh' l
 | [], _ => by rw [List.map_nil, zfV, zfV]
 | e :: r, h => by rw [List.map_cons, zfV, zfV, h e (by simp), zk5 fun x hx => h x (by simp [hx])]
theorem zne {sh sh' : Exp -> Bool} {f : Exp -> Exp} : ∀ {l : List Exp} (n : Nat), (∀ x ∈ l, sh (f x) = sh' x) -> ((l.map f).take n).any sh = (l.take n).any sh'
 | [], n, _ => by simp
 | e :: r, 0, _ => by simp
 | e :: r, n + 1, h => by simp only [List.map_cons, List.take_succ_cons, List.any_cons]; rw [h e (by simp), zne n fun x hx => h x (by simp [hx])]
theorem zlS {sh sh' : Exp -> Bool} {f : Exp -> Exp} {op : Int} {l : List Exp} (h : ∀ x ∈ l, sh (f x) = sh' x) : zaT sh op (l.map f) = zaT sh' op l := by
 unfold zaT;rw [zne 2 h]
theorem zgI {nm : List UInt8 -> Code} {sh sh' : Exp -> Bool} : ∀ (d : Nat) (e : Exp), za0 d e = true -> (∀ (k : Nat) x, za0 k x = true -> k + 1 <= d -> sh x = sh' x) -> zjP nm sh e = zjP nm sh' e
 | 0, e, h, _ => by simp [za0] at h
 | d + 1, e, h, hs => by
  obtain ⟨h1, h2, h3, h4⟩ := zdj h;rw [zl7, zl7];by_cases c0 : e.op = 0
  ·rw [if_pos c0, if_pos c0]
  rw [if_neg c0, if_neg c0];by_cases c1 : e.op = 1
  ·rw [if_pos c1, if_pos c1]
  rw [if_neg c1, if_neg c1];have ih : ∀ x ∈ e.args, zjP nm sh (id x) = zjP nm sh' x := fun x hx => zgI d x (h4 c0 c1 x hx) fun k y hy hk => hs k y hy (by omega);have iN := zk4 ih;have iA := zk5 ih;have iP := zlS (op := e.op) (f := id) (fun x hx => hs d x (h4 c0 c1 x hx) (by omega) : ∀ x ∈ e.args, sh x = sh' x);simp only [List.map_id] at iN iA iP;simp only [iN, iA, iP]
def shS (lets : List Let) (n : Nat) : Exp -> Bool := zcv (sF (mOf [] (lets.take n)))
theorem ztR {lets : List Let} (hl : lets.length <= 20) (hr : ∀ l ∈ lets, za0 12 l.body = true) {n : Nat} {k : Nat} {x : Exp} (hx : za0 k x = true) (hk : k <= 12) : shF lets n x = shS lets n x := by
 unfold shF shS zd5;have : zbh (lets.take n) x = true := by
  unfold zbh;rw [zfj hk hx];simp only [Bool.and_true, Bool.and_eq_true, decide_eq_true_eq, Bool.not_eq_true', List.any_eq_false, Bool.not_eq_true];exact ⟨by simp; omega, fun l hl => by simp [hr l (List.mem_of_mem_take hl)]⟩
 rw [this, Bool.true_and]
theorem ztZ {lets : List Let} (hl : lets.length <= 20) (hr : ∀ l ∈ lets, za0 12 l.body = true) : ∀ (n : Nat) (s : List UInt8), nmL lets (shF lets) n s = nmL lets (shS lets) n s
 | 0, s => by rw [nmL, nmL]
 | n + 1, s => by
  have ih := funext (ztZ hl hr n);rw [nmL, nmL, ih];cases hx : lets[n]? with
  | none => rfl
  | some l =>
   simp only;rw [zgI 12 l.body (hr l (List.mem_of_getElem? hx)) fun k x hx hk => ztR hl hr hx (by omega)]
theorem zsZ {lets : List Let} {e : Exp} (h : zbh lets e = true) : zeE lets (shF lets) e = zeE lets (shS lets) e := by
 obtain ⟨h1, h2, h3⟩ := zeI h;unfold zeE;rw [funext (ztZ h1 h3 lets.length)];exact zgI 12 e h2 fun k x hx hk => ztR h1 h3 hx (by omega)
theorem zj5 (lets : List Let) (e : Exp) : zcZ lets e = if zbh lets e = true then (if 2000 <= (zeE lets (shS lets) e).length then ([], 6) else (zeE lets (shS lets) e ++ [⟨14, 0, []⟩], 0)) else ([], 1) := by
 unfold zcZ;by_cases h : zbh lets e = true
 ·rw [if_pos h, if_pos h];obtain ⟨h1, h2⟩ := zri lets e;rw [zsZ h] at h1 h2;by_cases hl : (zen lets e).length < 2000
  ·rw [if_neg (by omega), if_neg (by omega), h2 hl]
  ·rw [if_pos (by omega), if_pos (by omega)]
 ·rw [if_neg h, if_neg h]
end Go.Proofs.YtkdhmbhbbciedaaGreatDoor
namespace Go.Proofs.YtkdhmbhbbciedaaGreatDoor
open Go Go.VL
def zvL (C : Code) (H : Nat -> Int) (i : Nat) (m : Vm.Mach) : Prop :=
 (m.en = true /\ m.er ≠ 16 /\ m.er ≠ 2) \/ (m.en = false /\ ∃ j : Nat, i < j /\ j < C.length /\ m.pc = j /\ (m.stack.length : Int) = H j /\ (m.stack.any fun n => !Vm.okv n) = false)
theorem zge {C : Code} {H : Nat -> Int} {i : Nat} {m : Vm.Mach} (y : Int) (he : m.en = false) (hp : m.pc = i) (hb : (m.stack.any fun n => !Vm.okv n) = false) (h1 : i + 1 < C.length) (h2 : H (i + 1) = m.stack.length + 1) : zvL C H i (m.push y) := by
 unfold Vm.Mach.push;by_cases hy : Vm.okv y = true
 ·rw [if_pos hy];refine .inr ⟨he, i + 1, by omega, h1, by simp [hp], by simp [h2], ?_⟩;simp only [List.any_append, hb, Bool.false_or];simp [hy]
 ·rw [if_neg hy];exact .inl ⟨rfl, by simp [Vm.Mach.fin], by simp [Vm.Mach.fin]⟩
theorem zjX {m : Vm.Mach} (k : Nat) (hb : (m.stack.any fun n => !Vm.okv n) = false) : ((m.drop k).stack.any fun n => !Vm.okv n) = false := by
 rw [List.any_eq_false] at hb ⊢;exact fun x hx => hb x (List.mem_of_mem_take hx)
theorem drop_length {m : Vm.Mach} (k : Nat) : (m.drop k).stack.length = m.stack.length - k := by simp [Vm.Mach.drop]
theorem zsM {x : Ins} {i n : Nat} (h : zdx x i n = true) : 0 <= x.op /\ x.op < 15 /\ ((x.op = 12 \/ x.op = 13) -> (i : Int) < x.a) := by
 unfold zdx at h;split at h
 ·rename_i e; rw [e]; omega
 split at h
 ·rename_i e; rw [e]; omega
 split at h
 ·rename_i e; simp at h; exact ⟨by omega, by omega, fun _ => h.1.2⟩
 ·rename_i e; simp at h; exact ⟨h.1.2, h.2, fun e2 => absurd e2 e⟩
theorem zr4 {C : Code} {H : Nat -> Int} (h : Hts C H) (hf : zgh C = true) (vs : List Vm.Var) (fuel : Int) : ∀ (k : Nat) (n : Int) (m : Vm.Mach) (i : Nat), m.en = false -> m.pc = i -> i < C.length -> (m.stack.length : Int) = H i ->
  (m.stack.any fun n => !Vm.okv n) = false -> C.length - i <= k -> (Vm.runK C vs fuel k n m).2.2 ≠ 16 /\ (Vm.runK C vs fuel k n m).2.2 ≠ 2
 | 0, n, m, i, he, hp, hi, hs, hb, hk => by omega
 | k + 1, n, m, i, he, hp, hi, hs, hb, hk => by
  have hx : C[i]? = some C[i] := List.getElem?_eq_getElem hi;generalize C[i] = x at hx;obtain ⟨h1, h2, h3, h4⟩ := h.ok i x hx;obtain ⟨o1, o2, o3⟩ := zsM (zfG hf hx);have hst : Vm.stepM C vs m = Vm.stepI vs m x := by
   rw [Vm.stepM_eq (by omega) (by rw [hp]; simpa using hx), if_neg];have : Vm.needs x.op = zct x.op := rfl;rw [this, hb];simp;omega
  have key : zvL C H i (Vm.stepI vs m x) := by
   have nx : x.op ≠ 14 -> x.op ≠ 12 -> i + 1 ∈ zdJ x i := fun e1 e2 => by
    unfold zdJ;rw [if_neg e1, if_neg e2];split <;> simp
   unfold Vm.stepI;split
   ·rename_i e;obtain ⟨q1, q2, q3⟩ := h4 _ (nx (by omega) (by omega));exact zge _ he hp hb q2 (by rw [q3, hs]; simp [zct, zbk, e])
   split
   ·rename_i e;obtain ⟨q1, q2, q3⟩ := h4 _ (nx (by omega) (by omega));split
    ·exact .inl ⟨rfl, by simp [Vm.Mach.fin], by simp [Vm.Mach.fin]⟩
    ·exact zge _ he hp hb q2 (by rw [q3, hs]; simp [zct, zbk, e])
   split
   ·rename_i e;have ha := o3 (.inl e);obtain ⟨q1, q2, q3⟩ := h4 x.a.toNat (by simp [zdJ, e]);exact .inr ⟨he, x.a.toNat, q1, q2, by simp; omega, by simp only; rw [q3, hs]; simp [zct, zbk, e], hb⟩
   split
   ·rename_i e;have ha := o3 (.inr e);have hl := drop_length (m := m) 1;have hd := zjX 1 hb;have hn : (1 : Int) <= H i := by simpa [zct, e] using h2
    have a1 := h4 x.a.toNat (by simp [zdJ, e]);have a2 := h4 (i + 1) (by simp [zdJ, e]);have hv : H i - zct x.op + zbk x.op = H i - 1 := by simp [zct, zbk, e]
    rw [hv] at a1 a2;refine .inr ⟨he, if m.top 0 = 0 then x.a.toNat else i + 1, ?_, ?_, ?_, ?_, hd⟩
    ·split
     ·exact a1.1
     ·exact a2.1
    ·split
     ·exact a1.2.1
     ·exact a2.2.1
    ·simp only;split <;> omega
    ·simp only;rw [hl];split
     ·rw [a1.2.2]; omega
     ·rw [a2.2.2]; omega
   split
   ·exact .inl ⟨rfl, by simp [Vm.Mach.fin], by simp [Vm.Mach.fin]⟩
   split
   ·rename_i e;obtain ⟨q1, q2, q3⟩ := h4 _ (nx (by omega) (by omega));have hl := drop_length (m := m) 1;have hn : (1 : Int) <= H i := by simpa [zct, e] using h2
    exact zge _ he hp (zjX 1 hb) q2 (by rw [q3, hl]; simp [zct, zbk, e]; omega)
   split
   ·exact .inl ⟨rfl, by simp [Vm.Mach.fin], by simp [Vm.Mach.fin]⟩
   ·rename_i e0 e1 e12 e13 e14 e11 _;obtain ⟨q1, q2, q3⟩ := h4 _ (nx e14 e12);have hl := drop_length (m := m) 2;have hv : zct x.op = 2 /\ zbk x.op = 1 := by
     unfold zct zbk;rw [if_neg (by omega), if_neg (by omega), if_neg (by omega)];exact ⟨rfl, rfl⟩
    rw [hv.1] at h2 q3;rw [hv.2] at q3;exact zge _ he hp (zjX 2 hb) q2 (by rw [q3, hl]; omega)
  rw [Vm.runK];simp only [hst];rcases key with ⟨e1, e2, e3⟩ | ⟨e1, j, g1, g2, g3, g4, g5⟩
  ·rw [if_pos e1];exact ⟨e2, e3⟩
  ·rw [if_neg (by simp [e1])];exact zr4 h hf vs fuel k (n + 1) _ j e1 g3 g2 g4 g5 (by omega)
theorem zoM {lets : List Let} {e : Exp} {c : Code} (hc : zcZ lets e = (c, 0)) (vs : List Vm.Var) : (Vm.runM c vs 100000).2.2 ≠ 16 /\ (Vm.runM c vs 100000).2.2 ≠ 2 := by
 unfold zcZ at hc;split at hc
 ·rename_i hr;split at hc
  ·cases hc
  ·rename_i hl;obtain rfl := congrArg Prod.fst hc;obtain ⟨H, h1, h2, _⟩ := zg2 hr (by omega);unfold Vm.runM;rw [if_neg (by omega)];refine zr4 h1 h2 vs 100000 _ 0 Vm.run0 0 rfl rfl (by simp) (by rw [h1.zero]; rfl) rfl ?_;simp;omega
 ·cases hc
theorem zsY {lets : List Let} {e : Exp} {c : Code} (hc : zcZ lets e = (c, 0)) : zb8 c = true := by
 unfold zcZ at hc;split at hc
 ·rename_i hr;split at hc
  ·cases hc
  ·rename_i hl;obtain rfl := congrArg Prod.fst hc;exact zn9 hr (by omega)
 ·cases hc
end Go.Proofs.YtkdhmbhbbciedaaGreatDoor
namespace Go.Proofs.YtkdhmbhbbciedaaGreatDoor
open Go Go.VL
attribute [local simp] HS za2 zcH zbP evPure opd uOf zaq St.put St.at getK binD binI binS binB nilD aggD ze4 zfg lookD lookR zbM rangeS Go.VL.nextD Go.VL.nextS zbR zfi zfh zeD zb0 mkV zaX zaE zaD zaC zcG zaA zaP za5 mapEff zdm zeo Key.kk shiftI arith unD convD zda loadD cellsAt fieldAddrD fieldD indexAddrD indexSlD arrAddr indexD sliceD cutD lenD minmaxD nilCheckD buildD fillD zbv zcI zec setAll zcA zd1 zbK zeT zbJ St.add zak zbd rowsOf zcU zcb zad zac zaa zaW zcy zaH entry zah zaj valD zbW zcu zeU zcN zcO zbC zbu zag zaM za4 delAll effD St.effS zb6 zaF zat zb7 zaG zav zbq zau zam zbr zb5 za1 zbm zaO zbl zai mkD zbi zbb zbf zag zbT D.ids Op.operands Call.operands zbc makeIfD makeFuncD typeAssertD zff zcX zcY zfb zbN IntKind.bits zcx List.take_of_length_le List.range_succ zcm zbF zcn zch zba zbw zby zci zbA zaU zbz zbx zfO zbE zck zaK zaw zcl zaL zay zbD zax zap zcq zcr zfN zab frzN frz1 zaR zaQ St.frz St.frzS frzS fv zbQ zb2 zb3 zaS zaz zan frz zcd zbU zbY zbZ za6 St.norm St.lp St.only zaY wkE wkO wkU Ob.under D.under zal zar zco zbG zcp h4s zdT zas za7 List.zipIdx_cons List.zipIdx_nil List.map_cons List.map_nil Nat.zero_add
attribute [local irreducible] V G H HD HD2 HD4 zgw RetX za3 Eff CallP CallV EndOK Fun Ret FinOK LoopI LoopW EndW HR vs2 RN Cnd H4
theorem ziF (lets : List Let) (e : Exp) : Fun Tryz.prog 27 [.u (zaB lets), zcC e] (· = .u (.bool (zd5 lets e))) := by
 have h1 := zpo lets [] e;have hk : okJ lets [] e = zbh lets e := by simp [okJ]
 unfold zd5;unfold zpp at h1;rw [hk] at h1;cases hK : zbh lets e
 ·rw [hK] at h1;simp only [zaB, zql, zcC, Bool.false_eq_true, if_false, List.map_nil] at h1 ⊢;refine Fun.run Tryz.func27 Tryz.ntmps27 Tryz.results27 rfl (by simp) fun Γ hn => ?_
  repeat' (first
  | (refine zaf rfl ?_; simp)
  | (refine CallP.f2 rfl (h1) (by first | simp <;> rfl | fail) ?_; simp)
  | fail)
  (refine Pst.of ?_; simp)
 ·rw [hK] at h1;have h2 := zeH (gOf []) (mOf (gOf []) lets) 12 e (zeI hK).2.1;have hg : gOf [] = [] := rfl;rw [hg] at h1 h2;simp only [zaB, zql, zcC, if_true, jU, List.map_nil] at h1 h2 ⊢;generalize zcv (sF (mOf [] lets)) e = r at h2 ⊢;refine Fun.run Tryz.func27 Tryz.ntmps27 Tryz.results27 rfl (by simp) fun Γ hn => ?_
  repeat' (first
  | (refine zaf rfl ?_; simp)
  | ((first | refine CallP.f2 rfl (h1) (by first | simp <;> rfl | fail) ?_ | refine CallP.f2 rfl (h2) (by first | simp <;> rfl | fail) ?_ | fail); simp)
  | fail)
  (refine Pst.of ?_; simp)
end Go.Proofs.YtkdhmbhbbciedaaGreatDoor
namespace Go.Proofs.YtkdhmbhbbciedaaGreatDoor
open Go Go.VL
section
variable {lets : List Let} {G : List UInt8 -> Option Int} {n : Nat} {e x y z : Exp} {t t1 t2 : Tab}
end
attribute [local simp] HS za2 zcH zbP evPure opd uOf zaq St.put St.at getK binD binI binS binB nilD aggD ze4 zfg lookD lookR zbM rangeS Go.VL.nextD Go.VL.nextS zbR zfi zfh zeD zb0 mkV zaX zaE zaD zaC zcG zaA zaP za5 mapEff zdm zeo Key.kk shiftI arith unD convD zda loadD cellsAt fieldAddrD fieldD indexAddrD indexSlD arrAddr indexD sliceD cutD lenD minmaxD nilCheckD buildD fillD zbv zcI zec setAll zcA zd1 zbK zeT zbJ St.add zak zbd rowsOf zcU zcb zad zac zaa zaW zcy zaH entry zah zaj valD zbW zcu zeU zcN zcO zbC zbu zag zaM za4 delAll effD St.effS zb6 zaF zat zb7 zaG zav zbq zau zam zbr zb5 za1 zbm zaO zbl zai mkD zbi zbb zbf zag zbT D.ids Op.operands Call.operands zbc makeIfD makeFuncD typeAssertD zff zcX zcY zfb zbN IntKind.bits zcx List.take_of_length_le List.range_succ zcm zbF zcn zch zba zbw zby zci zbA zaU zbz zbx zfO zbE zck zaK zaw zcl zaL zay zbD zax zap zcq zcr zfN zab frzN frz1 zaR zaQ St.frz St.frzS frzS fv zbQ zb2 zb3 zaS zaz zan frz zcd zbU zbY zbZ za6 St.norm St.lp St.only zaY wkE wkO wkU Ob.under D.under zal zar zco zbG zcp h4s zdT zas za7 List.zipIdx_cons List.zipIdx_nil List.map_cons List.map_nil Nat.zero_add
attribute [local irreducible] V G H HD HD2 HD4 zgw RetX za3 Eff CallP CallV EndOK Fun Ret FinOK LoopI LoopW EndW HR vs2 RN Cnd H4
end Go.Proofs.YtkdhmbhbbciedaaGreatDoor
namespace Go.Proofs.YtkdhmbhbbciedaaGreatDoor
open Go Go.VL
attribute [local simp] HS za2 zcH zbP evPure opd uOf zaq St.put St.at getK binD binI binS binB nilD aggD ze4 zfg lookD lookR zbM rangeS Go.VL.nextD Go.VL.nextS zbR zfi zfh zeD zb0 mkV zaX zaE zaD zaC zcG zaA zaP za5 mapEff zdm zeo Key.kk shiftI arith unD convD zda loadD cellsAt fieldAddrD fieldD indexAddrD indexSlD arrAddr indexD sliceD cutD lenD minmaxD nilCheckD buildD fillD zbv zcI zec setAll zcA zd1 zbK zeT zbJ St.add zak zbd rowsOf zcU zcb zad zac zaa zaW zcy zaH entry zah zaj valD zbW zcu zeU zcN zcO zbC zbu zag zaM za4 delAll effD St.effS zb6 zaF zat zb7 zaG zav zbq zau zam zbr zb5 za1 zbm zaO zbl zai mkD zbi zbb zbf zag zbT D.ids Op.operands Call.operands zbc makeIfD makeFuncD typeAssertD zff zcX zcY zfb zbN IntKind.bits zcx List.take_of_length_le List.range_succ zcm zbF zcn zch zba zbw zby zci zbA zaU zbz zbx zfO zbE zck zaK zaw zcl zaL zay zbD zax zap zcq zcr zfN zab frzN frz1 zaR zaQ St.frz St.frzS frzS fv zbQ zb2 zb3 zaS zaz zan frz zcd zbU zbY zbZ za6 St.norm St.lp St.only zaY wkE wkO wkU Ob.under D.under zal zar zco zbG zcp h4s zdT zas za7 List.zipIdx_cons List.zipIdx_nil List.map_cons List.map_nil Nat.zero_add
attribute [local irreducible] V G H HD HD2 HD4 zgw RetX za3 Eff CallP CallV EndOK Fun Ret FinOK LoopI LoopW EndW HR vs2 RN Cnd H4
theorem zdG (l : List Tok) (p : Nat) (t : Tok) (hp : l[p]? = some t) (hl : l.length <= 1000000) : Fun Tryz.prog 108 [.u (zr6 l p)] (· = .u (.agg [.int .i64 t.kind, .str t.text, .int .i64 t.n, .int .i64 t.pos])) := by
 have hlt := (List.getElem?_eq_some_iff.1 hp).1;unfold zr6 zoH;refine Fun.run Tryz.func108 Tryz.ntmps108 Tryz.results108 rfl (by simp) fun Γ hn => ?_
 repeat' (first
  | (refine zaf rfl ?_; simp [hp])
  | (refine ⟨hC _ (by kernel_rfl), hk _ (zdb 8 _ _ _ ?_)⟩; clear hC hk C k; simp [hp])
  | (refine zdX rfl (by kernel_rfl) (by first | (simp [hn]; done) | (simp [hn]; omega) | fail) fun C k hC hk => ?_; simp [hp])
  | fail)
 (refine Pst.of ?_; simp)
theorem zgX (l : List Tok) (p : Nat) (w : List UInt8) (hp : p < l.length) (hl : l.length <= 1000000) : Fun Tryz.prog 143 [.u (zr6 l p), .u (.str w)] (· = .u (.bool (isB l p w))) := by
 obtain ⟨t, ht⟩ : ∃ t, l[p]? = some t := ⟨_, List.getElem?_eq_getElem hp⟩;have hnx := zdG l p t ht hl;unfold isB;rw [ht];unfold zr6 zoH at *;by_cases h1 : t.kind = 0
 ·refine Fun.run Tryz.func143 Tryz.ntmps143 Tryz.results143 rfl (by simp) fun Γ hn => ?_
  repeat' (first
  | (refine zaf rfl ?_; simp [h1])
  | (refine CallP.f2 rfl (hnx) (by first | simp [h1] <;> rfl | fail) ?_; simp [h1])
  | fail)
  all_goals
   (refine Pst.of ?_; simp)
  all_goals simp [h1]
 ·refine Fun.run Tryz.func143 Tryz.ntmps143 Tryz.results143 rfl (by simp) fun Γ hn => ?_
  repeat' (first
  | (refine zaf rfl ?_; simp [h1])
  | (refine CallP.f2 rfl (hnx) (by first | simp [h1] <;> rfl | fail) ?_; simp [h1])
  | fail)
  all_goals
   (refine Pst.of ?_; simp)
  all_goals simp [h1]
theorem zcB (l : List Tok) (p : Nat) (w : List UInt8) (i nx : Nat) (hi : i < nx) (hp : p < l.length) (hl : l.length <= 1000000) :
  RetX Tryz.prog 168 [.ptr i 0, .u (.str w)] [(i, pOb l p)] nx (fun r o n => r = .val (.u (.bool (isB l p w))) /\ o = [(i, pOb l (if isB l p w = true then p + 1 else p))] /\ n = nx) := by
 have h1 := zgX l p w hp hl;unfold pOb zr6 zoH at *;cases hb : isB l p w with
 | false =>
  rw [hb] at h1;refine RetX.runW Tryz.func168 Tryz.ntmps168 rfl (by simp) fun Γ hn hpan => ?_
  repeat' (first
  | (refine zaf rfl ?_; simp)
  | (refine CallP.f2 rfl (h1) (by first | simp <;> rfl | fail) ?_; simp)
  | fail)
  (refine EndW.h Tryz.results168 ?_; simp)
 | true =>
  rw [hb] at h1;refine RetX.runW Tryz.func168 Tryz.ntmps168 rfl (by simp) fun Γ hn hpan => ?_
  repeat' (first
  | (refine zaf rfl ?_; simp)
  | (refine And.intro (by omega) ?_)
  | (refine CallP.f2 rfl (h1) (by first | simp <;> rfl | fail) ?_; simp)
  | fail)
  (refine EndW.h Tryz.results168 ?_; simp)
def chP (pos e : Int) : List PanicEntry := [{ v := .iface 179 (.agg #[.int .i64 pos, .int .i64 e]), recovered := false }]
def isP (l : List Tok) (ob : Ob) : Prop := ∃ q : Nat, ob = pOb l q
theorem zhm (l : List Tok) (p : Nat) (e : Int) (i nx : Nat) (hi : i < nx) :
  RetX Tryz.prog 107 [.ptr i 0, .u (.bool true), .u (.int .i64 e)] [(i, pOb l p)] nx (fun r o n => r = .val (.tup []) /\ o = [(i, pOb l p)] /\ n = nx) := by
 refine RetX.runW Tryz.func107 Tryz.ntmps107 rfl (by simp) fun Γ hn hpan => ?_
 repeat' (first
  | (refine zaf rfl ?_; simp)
  | fail)
 (refine EndW.h Tryz.results107 ?_; simp)
theorem zgn (l : List Tok) (p : Nat) (t : Tok) (e : Int) (i nx : Nat) (hi : i < nx) (hp : l[p]? = some t) (hl : l.length <= 1000000) :
  RetX Tryz.prog 107 [.ptr i 0, .u (.bool false), .u (.int .i64 e)] [(i, pOb l p)] nx (fun r o n => r = .pan (chP t.pos e) /\ (∃ ob', isP l ob' /\ o = [(i, ob')]) /\ n = nx) := by
 have h1 := zdG l p t hp hl;refine RetX.runW Tryz.func107 Tryz.ntmps107 rfl (by simp) fun Γ hn hpan => ?_
 repeat' (first
  | (refine zaf rfl ?_; simp)
  | (refine CallP.f2 rfl (h1) (by first | simp <;> rfl | fail) ?_; simp)
  | fail)
 all_goals
  (refine hpan _ _ (PanG.k ([(i, pOb l p)]) (nx) (by simp [hn, hi] <;> omega) ?_); try simp)
  all_goals exact ⟨rfl, p, rfl⟩
inductive PR (α : Type) where
 | ok (a : α) (p : Nat)
 | stop (pos e : Int)
def zkJ (l : List Tok) (p : Nat) : Int := match l[p]? with | some t => t.pos | none => 0
def zdQ (l : List Tok) : Nat -> List (List UInt8) -> PR Unit
 | p, [] => .ok () p
 | p, w :: ws => if isB l p w = true then zdQ l (p + 1) ws else .stop (zkJ l p) 12
def PPost {α : Type} (l : List Tok) (i nx : Nat) (val : α -> D) : PR α -> Out -> List (Nat × Ob) -> Nat -> Prop
 | .ok a q, o, obs, n => o = .val (val a) /\ obs = [(i, pOb l q)] /\ n = nx
 | .stop pos e, o, obs, n => o = .pan (chP pos e) /\ (∃ ob', isP l ob' /\ obs = [(i, ob')]) /\ n = nx
theorem zmz (l : List Tok) (p : Nat) (ws : List (List UInt8)) (i nx : Nat) (hi : i < nx) (hp : p < l.length) (hl : TokOK l) (hw : ws.length <= 100) :
  RetX Tryz.prog 169 [.ptr i 0, .u (.sl (ws.map fun w => [.str w]))] [(i, pOb l p)] nx (PPost l i nx (fun _ => .tup []) (zdQ l p ws)) := by
 refine RetX.runW Tryz.func169 Tryz.ntmps169 rfl (by simp) fun Γ hn hpan => ?_
 repeat' (first
  | (refine zaf rfl ?_; simp)
  | fail)
 refine zdz (α := { x : Nat × Nat // x.1 <= ws.length /\ x.2 < l.length /\ zdQ l p ws = zdQ l x.2 (ws.drop x.1) }) [0, 6, 7] (fun x => [(8, .u (.int .i64 x.1.1))]) (fun x => [(i, pOb l x.1.2)]) nx (fun x => ws.length - x.1.1) ⟨(0, p), by simp, hp, by simp⟩ ?_ ?_
 ·exact (Wk.zem (by simp [hn, hi] <;> grind))
 rintro ⟨⟨k, q⟩, h1, h2, h3⟩;simp only at h1 h2 h3;simp;rcases hx : ws[k]? with _ | w
 ·have hge : ws.length <= k := by simpa using hx
  obtain rfl : k = ws.length := by omega
  rw [List.drop_length, zdQ] at h3
  repeat' (first
  | (refine zaf rfl ?_; simp [hx])
  | fail)
  rw [h3]
  (refine EndW.h Tryz.results169 ?_; simp)
  simp [PPost]
 ·have hlt : k < ws.length := (List.getElem?_eq_some_iff.1 hx).1;have hd : ws.drop k = w :: ws.drop (k + 1) := by
   obtain ⟨h5, h6⟩ := List.getElem?_eq_some_iff.1 hx;rw [<- h6, List.getElem_cons_drop]
  rw [hd, zdQ] at h3;have hh := zcB l q w i nx hi h2 hl.len;by_cases hb : isB l q w = true
  ·rw [if_pos hb] at h3;rw [hb, if_pos rfl] at hh;have hq := zcM hl hb;have hck := zhm l (q + 1) 12 i nx hi
   repeat' (first
  | (refine Cnd.of (fun hc => ?_) (fun hc => ?_) <;> (try (exfalso; omega)) <;> (try simp [hx]))
  | (refine zaf rfl ?_; simp [hx])
  | (refine And.intro (by omega) ?_)
  | (refine CallP.ok1 (hh) (by first | (simp [hx, zaa, getK, zab, zac]; done) | fail) (by rfl) (by first | assumption | (simp; done) | fail) (by rfl) (by simp) ?_; (try simp [hx]))
  | (refine CallP.ok1 (hck) (by first | (simp [hx, zaa, getK, zab, zac]; done) | fail) (by rfl) (by first | assumption | (simp; done) | fail) (by rfl) (by simp) ?_; (try simp [hx]))
  | fail)
   refine LoopW.next ⟨(k + 1, q + 1), by omega, hq, h3⟩ (by simp; omega) ?_
   exact (Wk.zem (by simp [hn, hi, zab, zac, zaa, getK] <;> grind))
  ·have hb2 : isB l q w = false := by simpa using hb
   rw [if_neg hb] at h3;rw [hb2, if_neg (by simp)] at hh;obtain ⟨t, ht⟩ : ∃ t, l[q]? = some t := ⟨_, List.getElem?_eq_getElem h2⟩;have hck := zgn l q t 12 i nx hi ht hl.len
   repeat' (first
  | (refine Cnd.of (fun hc => ?_) (fun hc => ?_) <;> (try (exfalso; omega)) <;> (try simp [hx]))
  | (refine zaf rfl ?_; simp [hx])
  | (refine CallP.ok1 (hh) (by first | (simp [hx, zaa, getK, zab, zac]; done) | fail) (by rfl) (by first | assumption | (simp; done) | fail) (by rfl) (by simp) ?_; (try simp [hx]))
  | (refine CallP.zhq (hck) (by first | (simp [hx, zaa, getK, zab, zac]; done) | fail) (by rfl) (by first | assumption | (simp; done) | fail) (by rfl) (by simp) ?_; rintro ob' ⟨q', rfl⟩; refine ⟨_, Wk.refl _, ?_⟩)
  | fail)
   rw [h3] at hpan
   (refine hpan _ _ (PanG.k ([(i, pOb l q')]) (nx) (by simp [hn, hi, zab, zac, zaa, getK] <;> omega) ?_); try simp)
   all_goals exact ⟨by simp [zkJ, ht], ⟨_, ⟨q', rfl⟩, rfl⟩, rfl⟩
theorem zf6 (lets : List Let) (shs : List Bool) (c : Code) (i : Ins) (m q nx : Nat) (hm : m < nx) (hq : q < nx) (hmq : m ≠ q) (hl : c.length <= 100000) : RetX Tryz.prog 38 [.ptr m 0, .u (.agg [.int .i64 i.op, .int .i64 i.a, .str i.s])] [(m, cOb lets shs q c), (q, kOb c)] nx
  fun r o n' => r = .val (.u (.int .i64 (((zb4 c i).length : Int) - 1))) /\ o = [(m, cOb lets shs nx (zb4 c i)), (nx, kOb (zb4 c i))] /\ n' = nx + 1 := by
 have hne := nef hm;have hne2 := nef hq;have hlr := zhY c;have hm1 : m < nx + 1 := by omega
 unfold cOb kOb;generalize zaI shs = y;simp only [zaB];unfold zb4;by_cases hc2 : c.length <= 2000
 ·rw [if_pos hc2];refine RetX.runW Tryz.func38 Tryz.ntmps38 rfl (by simp) fun Γ hn hpan => ?_
  repeat' (first
  | (refine Cnd.of (fun hc => ?_) (fun hc => ?_) <;> (try (exfalso; omega)) <;> (try simp [hne, hne2, hmq, Ne.symm hmq, hc2, Nat.add_assoc, del]))
  | (refine zaf rfl ?_; simp [hne, hne2, hmq, Ne.symm hmq, hc2, Nat.add_assoc, del])
  | (refine And.intro (by omega) ?_)
  | (refine ⟨hC _ (zdI [m, q] nx (by simp <;> omega) (by simp <;> omega) (by apply Exists.intro; apply And.intro; (focus (repeat' (first | exact KF.nil | exact KL.nil | apply KF.cons | apply KL.cons 0 rfl | apply KL.cons 1 rfl | apply KL.cons 2 rfl | apply KL.cons 3 rfl | apply KL.cons 4 rfl | apply KL.cons 5 rfl | apply KL.cons 6 rfl | apply KL.cons 7 rfl | apply KL.cons 8 rfl | apply KL.cons 9 rfl))); kernel_rfl)), hk _ (zdb 8 _ _ _ ?_)⟩; clear hC hk C k; simp [hne, hne2, hmq, Ne.symm hmq, hc2, Nat.add_assoc, del])
  | (refine zdX rfl (by kernel_rfl) (by first | (simp [hn]; done) | (simp [hn]; omega) | fail) fun C k hC hk => ?_; simp [hne, hne2, hmq, Ne.symm hmq, hc2, Nat.add_assoc, del])
  | fail)
  refine EndW.wk { n := _, env := [(4, .u (.int .i64 c.length))], obs := [(m, .box [.u (.sl (lets.map fun l => [.str l.name, .int .i64 l.body.op, .int .i64 l.body.n, .int .i64 l.body.unit, .str l.body.s, .sl (l.body.args.map Exp.row)])), .u y, .vec nx (c.length + 1)]), (nx, .vec 44 3 (zdF c ++ [[.u (.int .i64 i.op), .u (.int .i64 i.a), .u (.str i.s)]]))], next := nx + 1 } (Wk.ren ((fun i => if i = nx then nx + 2 else i)) rfl (by first | (simp [hn]; done) | (intro i hi; rw [hn] at hi; constructor <;> (try simp) <;> (try (intro _)) <;> omega)) (by simp [zgu, St.lp, zaY, zaa, getK, zac, zad, D.under, D.le, D.ren, hne, hne2, hmq, Ne.symm hmq, hm1, zbB] <;> (try (intros; simp_all; done)) <;> (try omega)) (by simp [wkR, St.lp, zaa, getK, zac, zad, obR, leU, zbn, zaN, Ob.under, D.under, D.le, D.ren, hne, hne2, hmq, Ne.symm hmq, hm1, zbB] <;> (try (intros; simp_all; done)) <;> (try omega)) (by simp [hne, hne2, hmq, Ne.symm hmq, hm1, zbB])) ?_
  (refine EndW.h Tryz.results38 ?_; simp)
 ·rw [if_neg hc2];refine RetX.runW Tryz.func38 Tryz.ntmps38 rfl (by simp) fun Γ hn hpan => ?_
  repeat' (first
  | (refine Cnd.of (fun hc => ?_) (fun hc => ?_) <;> (try (exfalso; omega)) <;> (try simp [hne, hne2, hmq, Ne.symm hmq, hc2, Nat.add_assoc, del]))
  | (refine zaf rfl ?_; simp [hne, hne2, hmq, Ne.symm hmq, hc2, Nat.add_assoc, del])
  | (refine And.intro (by omega) ?_)
  | fail)
  refine EndW.wk { n := _, env := [(4, .u (.int .i64 ((c.length : Int) - 1)))], obs := [(m, .box [.u (.sl (lets.map fun l => [.str l.name, .int .i64 l.body.op, .int .i64 l.body.n, .int .i64 l.body.unit, .str l.body.s, .sl (l.body.args.map Exp.row)])), .u y, .vec nx c.length]), (nx, .vec 44 3 (zdF c))], next := nx + 1 } (Wk.ren ((fun i => if i = nx then q else i)) rfl (by first | (simp [hn]; done) | (intro i hi; rw [hn] at hi; constructor <;> (try simp) <;> (try (intro _)) <;> omega)) (by simp [zgu, St.lp, zaY, zaa, getK, zac, zad, D.under, D.le, D.ren, hne, hne2, hmq, Ne.symm hmq, hm1, zbB] <;> (try (intros; simp_all; done)) <;> (try omega)) (by simp [wkR, St.lp, zaa, getK, zac, zad, obR, leU, zbn, zaN, Ob.under, D.under, D.le, D.ren, hne, hne2, hmq, Ne.symm hmq, hm1, zbB] <;> (try (intros; simp_all; done)) <;> (try omega)) (by simp [hne, hne2, hmq, Ne.symm hmq, hm1, zbB])) ?_
  (refine EndW.h Tryz.results38 ?_; simp)
theorem ziY (lets : List Let) (shs : List Bool) (c : Code) (j : Nat) (m q nx : Nat) (hm : m < nx) (hq : q < nx) (hmq : m ≠ q) (hl : c.length <= 100000) (hj : j < c.length) : RetX Tryz.prog 111 [.ptr m 0, .u (.int .i64 j)] [(m, cOb lets shs q c), (q, kOb c)] nx
  fun r o n' => r = .val (.tup []) /\ o = [(m, cOb lets shs nx (zdK c j)), (nx, kOb (zdK c j))] /\ n' = nx + 1 := by
 have hne := nef hm;have hne2 := nef hq;have hm1 : m < nx + 1 := by omega
 have hx : c[j]? = some c[j] := List.getElem?_eq_getElem hj;have hxr := zsH hx;have hlen := zbO c j;have hset := zq6 c j { c[j] with a := c.length };have hland : zdK c j = c.set j { c[j] with a := c.length } := by unfold zdK; rw [hx]
 have hp := zbB (zdK c j);rw [hland] at hlen hp ⊢;generalize c.set j { c[j] with a := c.length } = c2 at *;generalize c[j] = x at *;have hij := ze1 c;have hj2 : j < (zdF c).length := by omega
 unfold cOb kOb;rw [hlen];generalize zaI shs = y;generalize hR : zdF c = R at *;generalize zdF c2 = R2 at *;have hxe : R[j] = [.u (.int .i64 x.op), .u (.int .i64 x.a), .u (.str x.s)] := by
  rw [List.getElem?_eq_getElem hj2] at hxr;exact Option.some.inj hxr
 simp only at hset;clear hland hx hR hxr;simp only [zaB];refine RetX.runW Tryz.func111 Tryz.ntmps111 rfl (by simp) fun Γ hn hpan => ?_
 repeat' (first
  | (refine ⟨hC _ (zdI [m, q] nx (by simp <;> omega) (by simp <;> omega) (by apply Exists.intro; apply And.intro; (focus (repeat' (first | exact KF.nil | exact KL.nil | apply KF.cons | apply KL.cons 0 rfl | apply KL.cons 1 rfl | apply KL.cons 2 rfl | apply KL.cons 3 rfl | apply KL.cons 4 rfl | apply KL.cons 5 rfl | apply KL.cons 6 rfl | apply KL.cons 7 rfl | apply KL.cons 8 rfl | apply KL.cons 9 rfl))); kernel_rfl)), hk _ (zdb 8 _ _ _ ?_)⟩; clear hC hk C k; simp [hne, hne2, hmq, Ne.symm hmq, Nat.add_assoc, del, hij, hj, hxe, hset])
  | (refine zdX rfl (by kernel_rfl) (by first | (simp [hn]; done) | (simp [hn]; omega) | fail) fun C k hC hk => ?_; simp [hne, hne2, hmq, Ne.symm hmq, Nat.add_assoc, del, hij, hj, hxe, hset])
  | fail)
 refine EndW.wk { n := _, env := [], obs := [(m, .box [.u (.sl (lets.map fun l => [.str l.name, .int .i64 l.body.op, .int .i64 l.body.n, .int .i64 l.body.unit, .str l.body.s, .sl (l.body.args.map Exp.row)])), .u y, .vec nx c.length]), (nx, .vec 44 3 R2)], next := nx + 1 } (Wk.ren ((fun i => if i = nx then q else i)) rfl (by first | (simp [hn]; done) | (intro i hi; rw [hn] at hi; constructor <;> (try simp) <;> (try (intro _)) <;> omega)) (by simp [zgu, St.lp, zaY, zaa, getK, zac, zad, D.under, D.le, D.ren, hne, hne2, hmq, Ne.symm hmq, hm1, hp] <;> (try (intros; simp_all; done)) <;> (try omega)) (by simp [wkR, St.lp, zaa, getK, zac, zad, obR, leU, zbn, zaN, Ob.under, D.under, D.le, D.ren, hne, hne2, hmq, Ne.symm hmq, hm1, hp] <;> (try (intros; simp_all; done)) <;> (try omega)) (by simp [hne, hne2, hmq, Ne.symm hmq, hm1, hp])) ?_
 (refine EndW.h Tryz.results111 ?_; simp)
theorem zoF (lets : List Let) (shs : List Bool) (c : Code) (m q nx : Nat) (hm : m < nx) (hq : q < nx) (hmq : m ≠ q) (hl : c.length <= 100000) : RetX Tryz.prog 110 [.ptr m 0] [(m, cOb lets shs q c), (q, kOb c)] nx
  fun r o n' => r = .val (.tup []) /\ o = [(m, cOb lets shs nx (zdq c)), (nx, kOb (zdq c))] /\ n' = nx + 1 := by
 have hne := nef hm;have hne2 := nef hq;have hm1 : m < nx + 1 := by omega
 have hp := zbB (zdq c);have hlc := zfz c ⟨11, 0, []⟩;have h1 := zf6 lets shs c ⟨11, 0, []⟩ m q nx hm hq hmq hl;have h2 := zf6 lets shs (zb4 c ⟨11, 0, []⟩) ⟨11, 0, []⟩ m nx (nx + 1) (by omega) (by omega) (by omega) (by split at hlc <;> omega);unfold zdq at hp ⊢;simp only [zaB] at h1 h2 ⊢;generalize zb4 c ⟨11, 0, []⟩ = c1 at *;generalize zb4 c1 ⟨11, 0, []⟩ = c2 at *;refine RetX.runW Tryz.func110 Tryz.ntmps110 rfl (by simp) fun Γ hn hpan => ?_
 repeat' (first
  | (refine zaf rfl ?_; simp [hne, hne2, hmq, Ne.symm hmq, Nat.add_assoc, del])
  | (refine CallP.okL (h1) (by first | (simp [hne, hne2, hmq, Ne.symm hmq, Nat.add_assoc, del, zaa, getK, zab, zac, zad, zai, del]; done) | fail) (by rfl) (by first | assumption | (simp; done) | fail) (by rfl) (by simp) ?_; (try simp [hne, hne2, hmq, Ne.symm hmq, Nat.add_assoc, del, zdP, del]))
  | (refine CallP.okL (h2) (by first | (simp [hne, hne2, hmq, Ne.symm hmq, Nat.add_assoc, del, zaa, getK, zab, zac, zad, zai, del]; done) | fail) (by rfl) (by first | assumption | (simp; done) | fail) (by rfl) (by simp) ?_; (try simp [hne, hne2, hmq, Ne.symm hmq, Nat.add_assoc, del, zdP, del]))
  | fail)
 refine EndW.wk { n := _, env := [], obs := [(m, cOb lets shs nx c2), (nx, kOb c2)], next := nx + 1 } (Wk.ren ((fun i => if i = nx then nx + 1 else i)) rfl (by first | (simp [hn]; done) | (intro i hi; rw [hn] at hi; constructor <;> (try simp) <;> (try (intro _)) <;> omega)) (by simp [zgu, St.lp, zaY, zaa, getK, zac, zad, D.under, D.le, D.ren, hne, hne2, hmq, Ne.symm hmq, hm1, hp, cOb, kOb] <;> (try (intros; simp_all; done)) <;> (try omega)) (by simp [wkR, St.lp, zaa, getK, zac, zad, obR, leU, zbn, zaN, Ob.under, D.under, D.le, D.ren, hne, hne2, hmq, Ne.symm hmq, hm1, hp, cOb, kOb] <;> (try (intros; simp_all; done)) <;> (try omega)) (by simp [hne, hne2, hmq, Ne.symm hmq, hm1, hp, cOb, kOb])) ?_
 (refine EndW.h Tryz.results110 ?_; simp)
end Go.Proofs.YtkdhmbhbbciedaaGreatDoor
