import Derived.Test.YtkdhmbhbbciedaaGreatDoorL4
import Derived.Lib.ItoaLen
import Derived.Lib.ItoaNum
import Derived.Lib.AtoiAllCases
import Derived.Lib.Bytealg
set_option linter.all false
set_option maxRecDepth 100000
set_option maxHeartbeats 8000000
namespace Go.VL
theorem zpN {P : Program} {Γ : Ctx} {c : Code} {s : St} {Q : Exit -> St -> Prop} {x j : Nat} {cells : List U} {rows : List (List U)} (hx : getK s.env x = some (.u (.agg cells))) (hj : cells[j]? = some (.sl rows)) (h : rows.length <= 9223372036854775807 -> V P Γ c s Q) : V P Γ c s Q :=
 zpP (fun K a w hs => by
  have hr := (hs.getK hx).2;obtain ⟨vs, hl, _, hr⟩ := zd9 hr;have hr := hr j _ hj;generalize vs.getD j undef = v at hr;cases hr with
  | slE => simp
  | sl _ b o sz c f hc hcx => unfold maxLen at hcx; omega) h
end Go.VL
namespace Go.Proofs.YtkdhmbhbbciedaaGreatDoor
open Go Go.VL
attribute [local simp] zaY zcB zbz evPure opd uOf zal St.put St.at getK binD binI binS binB nilD aggD zeS zfd lookD lookR zbE rangeS Go.VL.nextD Go.VL.nextS zbJ zfk zfe zeu zb7 mkV zaZ zcH zaL za1 mapEff zdw zek Key.kk shiftI arith unD convD zcP loadD cellsAt fieldAddrD fieldD indexAddrD indexSlD arrAddr indexD sliceD cutD lenD minmaxD nilCheckD buildD fillD zbn zcC zd1 setAll zcx zdZ zbD zeO zbC St.add zaj za6 rowsOf zcI zca zad zac zaa zaQ zcs zaG entry za2 za3 valD zbK zcq zeL zcD zcE zbp zbo zag zaB za0 delAll effD St.effS zb4 zaD zas zb5 zaE zau zbl zat zan zbm zb2 zaW zbj zaJ zbi zah mkD zbd za4 zbb zag zbN D.ids Op.operands Call.operands za5 makeIfD makeFuncD typeAssertD zfc zcL zcM zeY zbG IntKind.bits zbQ zam List.take_of_length_le List.range_succ zci zbx zcj zcd za7 zbq zbs zce zbu zaP zbt zbr zfJ zbw zcg zaH zav zch zaI zax zbv zaw zaq zcm zcn zfH zab frzN frz1 zaO zaN St.frz St.frzS frzS fv zbI zbV zcb zaM zay zao frz zcc zbH zbS zbT zaX St.norm St.lp St.only zaS wkE wkO wkU Ob.under D.under zai zap zck zby zcl h4s zdG zar zaV List.zipIdx_cons List.zipIdx_nil List.map_cons List.map_nil Nat.zero_add
attribute [local irreducible] V G H HD HD2 zaT Eff CallP CallV EndOK Fun Ret FinOK LoopI LoopW EndW HR vs2 RN Cnd H4
def zcf : Nat -> Exp -> Int -> Int
 | 0, _, most => most + 1
 | L + 1, e, most => if 60 < e.s.length then most + 1 else e.args.foldl (fun n x => if n <= most then n + zcf L x (most - n) else n) 1
theorem zfy (L : Nat) (e : Exp) (most : Int) : zcf (L + 1) e most = if 60 < e.s.length then most + 1 else e.args.foldl (fun n x => if n <= most then n + zcf L x (most - n) else n) 1 := by rw [zcf]
theorem zeD : ∀ (L : Nat) (e : Exp) (most : Int), 0 <= most -> 1 <= zcf L e most /\ zcf L e most <= most + 1
 | 0, e, most, h => by rw [zcf]; omega
 | L + 1, e, most, h => by
  rw [zcf];split
  ·omega
  ·have : ∀ (l : List Exp) (n : Int), 1 <= n -> n <= most + 1 -> 1 <= l.foldl (fun n x => if n <= most then n + zcf L x (most - n) else n) n /\ l.foldl (fun n x => if n <= most then n + zcf L x (most - n) else n) n <= most + 1 := by
    intro l
    induction l with
    | nil => intro n h1 h2; exact ⟨h1, h2⟩
    | cons a l ih =>
     intro n h1 h2;rw [List.foldl_cons];split
     ·rename_i hn;have := zeD L a (most - n) (by omega);exact ih _ (by omega) (by omega)
     ·exact ih n h1 h2
   exact this _ 1 (by omega) (by omega)
theorem zdY {L : Nat} {most : Int} : ∀ (l : List Exp) (n : Int), ¬ n <= most -> l.foldl (fun n x => if n <= most then n + zcf L x (most - n) else n) n = n
 | [], _, _ => rfl
 | a :: l, n, h => by rw [List.foldl_cons, if_neg h]; exact zdY l n h
theorem zkB : ∀ (L : Nat) (e : Exp) (most : Int), 0 <= most -> most <= 1000 -> (L : Int) <= 100 -> Fun Tryz.prog 58 [zcF e, .u (.int .i64 most), .u (.int .i64 L)] (· = .u (.int .i64 (zcf L e most)))
 | 0, e, most, _, _, _ => by
  rw [zcf];refine Fun.run Tryz.func58 Tryz.ntmps58 Tryz.results58 rfl (by simp) fun Γ hn => ?_; simp only [entry, List.zipIdx_cons, List.zipIdx_nil, List.map_cons, List.map_nil, Nat.zero_add];simp only [zcF]
  repeat' (first
  | (refine zaf rfl ?_; simp)
  | (refine And.intro (by omega) ?_)
  | fail)
  (refine Pst.of ?_; simp)
 | L + 1, e, most, h0, h1, hL => by
  rw [zfy];by_cases hs : 60 < e.s.length
  ·rw [if_pos hs];refine Fun.run Tryz.func58 Tryz.ntmps58 Tryz.results58 rfl (by simp) fun Γ hn => ?_; simp only [entry, List.zipIdx_cons, List.zipIdx_nil, List.map_cons, List.map_nil, Nat.zero_add];simp only [zcF]
   repeat' (first
  | (refine Cnd.of (fun hc => ?_) (fun hc => ?_) <;> (try (exfalso; omega)) <;> (try simp))
  | (refine zaf rfl ?_; simp)
  | (refine And.intro (by omega) ?_)
  | fail)
   all_goals first
    | (exfalso; omega)
    | ((refine Pst.of ?_; simp); done)
  rw [if_neg hs];generalize hg : (e.args.foldl (fun n x => if n <= most then n + zcf L x (most - n) else n) 1) = g;refine Fun.run Tryz.func58 Tryz.ntmps58 Tryz.results58 rfl (by simp) fun Γ hn => ?_; simp only [entry, List.zipIdx_cons, List.zipIdx_nil, List.map_cons, List.map_nil, Nat.zero_add];simp only [zcF];refine zpN (x := 0) (j := 4) rfl rfl fun hl => ?_;simp only [List.length_map] at hl
  repeat' (first
  | (refine Cnd.of (fun hc => ?_) (fun hc => ?_) <;> (try (exfalso; omega)) <;> (try simp))
  | (refine zaf rfl ?_; simp)
  | fail)
  refine zdD (α := { p : Nat × Int // p.1 <= e.args.length /\ 1 <= p.2 /\ p.2 <= most + 1 /\ g = (e.args.drop p.1).foldl (fun n x => if n <= most then n + zcf L x (most - n) else n) p.2 }) [1, 2, 3] (fun p => [(7, .u (.int .i64 p.1.2)), (8, .u (.int .i64 p.1.1))]) (fun p => e.args.length - p.1.1) ⟨(0, 1), by simp, by simp, by simp; omega, by simp [hg]⟩ ?_ ?_
  ·exact (Wk.zeX (by simp [hn] <;> grind))
  rintro ⟨⟨i, n⟩, hi, hn1, hn2, hgn⟩;simp only at hi hn1 hn2 hgn;simp;rcases hx : e.args[i]? with _ | x
  ·have hge : e.args.length <= i := by simpa using hx
   rw [List.drop_of_length_le hge] at hgn
   repeat' (first
  | (refine Cnd.of (fun hc => ?_) (fun hc => ?_) <;> (try (exfalso; omega)) <;> (try simp [hx]))
  | (refine zaf rfl ?_; simp [hx])
  | fail)
   (refine Pst.of ?_; simp)
   rw [hgn]; rfl
  ·have hlt : i < e.args.length := (List.getElem?_eq_some_iff.1 hx).1;by_cases hm : n <= most
   ·have h5 := zkB L x (most - n) (by omega) (by omega) (by omega);have hb := zeD L x (most - n) (by omega);simp only [zcF] at h5;rw [List.drop_eq_getElem_cons hlt, List.foldl_cons, if_pos hm, (List.getElem?_eq_some_iff.1 hx).2] at hgn;generalize zcf L x (most - n) = y at h5 hb hgn
    repeat' (first
  | (refine Cnd.of (fun hc => ?_) (fun hc => ?_) <;> (try (exfalso; omega)) <;> (try simp [hx, x.row_eq]))
  | (refine zaf rfl ?_; simp [hx, x.row_eq])
  | (refine And.intro (by omega) ?_)
  | (refine CallP.f2 rfl (h5) (by first | simp [hx, x.row_eq] <;> rfl | fail) ?_; simp [hx, x.row_eq])
  | fail)
    refine LoopW.next ⟨(i + 1, n + y), (by omega : i + 1 <= e.args.length), (by omega : 1 <= n + y), (by omega : n + y <= most + 1), hgn⟩ (by simp; omega) ?_
    exact (Wk.zeX (by simp [hn] <;> grind))
   ·rw [zdY _ _ hm] at hgn
    repeat' (first
  | (refine Cnd.of (fun hc => ?_) (fun hc => ?_) <;> (try (exfalso; omega)) <;> (try simp [hx]))
  | (refine zaf rfl ?_; simp [hx])
  | fail)
    (refine Pst.of ?_; simp)
    rw [hgn]
def zn8 (e : Exp) (n : Int) : Bool := decide (zcf 16 e n <= n)
theorem ziV (e : Exp) (n : Int) (h0 : 0 <= n) (h1 : n <= 1000) : Fun Tryz.prog 26 [zcF e, .u (.int .i64 n)] (· = .u (.bool (zn8 e n))) := by
 have h2 := zkB 16 e n h0 h1 (by omega);unfold zn8;simp only [zcF] at h2 ⊢;generalize zcf 16 e n = y at h2 ⊢;refine Fun.run Tryz.func26 Tryz.ntmps26 Tryz.results26 rfl (by simp) fun Γ hn => ?_
 repeat' (first
  | (refine zaf rfl ?_; simp)
  | (refine CallP.f2 rfl (h2) (by first | simp <;> rfl | fail) ?_; simp)
  | fail)
 (refine Pst.of ?_; simp)
mutual
def zeo : Exp -> Int
 | .mk op _ _ _ args => (if op = 1 then 1 else 0) + zco args
def zco : List Exp -> Int
 | [] => 0
 | e :: r => zeo e + zco r
end
theorem zkD (e : Exp) : zeo e = (if e.op = 1 then 1 else 0) + zco e.args := by cases e with | mk op n u s args => rw [zeo]; rfl
mutual
theorem zeE : ∀ e : Exp, 0 <= zeo e
 | .mk op n u s args => by
  rw [zeo];have := zc0 args;split <;> omega
theorem zc0 : ∀ l : List Exp, 0 <= zco l
 | [] => by rw [zco]; omega
 | e :: r => by
  rw [zco];have := zeE e;have := zc0 r;omega
end
theorem znq {l : List Exp} {i : Nat} {x : Exp} (h : l[i]? = some x) : zco (l.take (i + 1)) = zco (l.take i) + zeo x := by
 induction l generalizing i with
 | nil => simp at h
 | cons a l ih =>
  cases i with
  | zero => simp at h; subst h; simp [zco]
  | succ i => rw [List.take_succ_cons, List.take_succ_cons, zco, zco, ih (i := i) (by simpa using h)]; omega
theorem znp {l : List Exp} (i : Nat) : zco (l.take i) <= zco l := by
 induction l generalizing i with
 | nil => simp
 | cons a l ih =>
  cases i with
  | zero => rw [List.take_zero]; have := zc0 (a :: l); rw [show zco [] = 0 by rw [zco]]; exact this
  | succ i => rw [List.take_succ_cons, zco, zco]; have := ih i; omega
theorem zkV : ∀ (L : Nat) (e : Exp) (most : Int), 0 <= most -> zcf L e most <= most -> zeo e <= zcf L e most
 | 0, e, most, _, h => by rw [zcf] at h; omega
 | L + 1, e, most, h0, h => by
  rw [zfy] at h ⊢;by_cases hs : 60 < e.s.length
  ·rw [if_pos hs] at h; omega
  rw [if_neg hs] at h ⊢;have key : ∀ (l : List Exp) (n : Int), 1 <= n -> l.foldl (fun n x => if n <= most then n + zcf L x (most - n) else n) n <= most -> n + zco l <= l.foldl (fun n x => if n <= most then n + zcf L x (most - n) else n) n := by
   intro l
   induction l with
   | nil => intro n _ _; rw [zco]; simp
   | cons a l ih =>
    intro n h1 h2;rw [List.foldl_cons] at h2 ⊢;by_cases hn : n <= most
    ·rw [if_pos hn] at h2 ⊢;have hb := zeD L a (most - n) (by omega);have h3 := ih _ (by omega) h2;have h4 : n + zcf L a (most - n) <= most := by
      rcases Int.lt_or_le most (n + zcf L a (most - n)) with h5 | h5
      ·rw [zdY _ _ (by omega)] at h2; omega
      ·exact h5
     have h5 := zkV L a (most - n) (by omega) (by omega);rw [zco];omega
    ·rw [if_neg hn, zdY _ _ hn] at h2; omega
  have h1 := key e.args 1 (by omega) h;rw [zkD];by_cases h3 : e.op = 1
  ·rw [if_pos h3]; omega
  ·rw [if_neg h3]; omega
theorem ziw : ∀ (m : Nat) (e : Exp), SizeOf.sizeOf e <= m -> zeo e <= 1000000 -> Fun Tryz.prog 62 [zcF e] (· = .u (.int .i64 (zeo e)))
 | 0, e, hm, _ => by cases e; simp at hm
 | m + 1, e, hm, hN => by
  have hch : ∀ x ∈ e.args, SizeOf.sizeOf x <= m := fun x hx => by
   cases e with
   | mk op n u s args =>
    have h1 := List.sizeOf_lt_of_mem (show x ∈ args from hx);simp at hm;omega
  rw [zkD] at hN ⊢;have hnn := zc0 e.args;generalize hk : (if e.op = 1 then (1 : Int) else 0) = k0 at hN ⊢;have hk01 : 0 <= k0 /\ k0 <= 1 := by rw [<- hk]; split <;> omega
  refine Fun.run Tryz.func62 Tryz.ntmps62 Tryz.results62 rfl (by simp) fun Γ hn => ?_; simp only [entry, List.zipIdx_cons, List.zipIdx_nil, List.map_cons, List.map_nil, Nat.zero_add];simp only [zcF];refine zpN (x := 0) (j := 4) rfl rfl fun hl => ?_;simp only [List.length_map] at hl
  repeat' (first
  | (refine Cnd.of (fun hc => ?_) (fun hc => ?_) <;> (try (exfalso; omega)) <;> (try simp))
  | (refine zaf rfl ?_; simp)
  | fail)
  all_goals
   refine zdD (α := { i : Nat // i <= e.args.length }) [1] (fun i => [(3, .u (.int .i64 (k0 + zco (e.args.take i.1)))), (4, .u (.int .i64 i.1))]) (fun i => e.args.length - i.1) ⟨0, by omega⟩ ?_ ?_
   ·exact (Wk.zeX (by simp [hn, zco] <;> grind))
   rintro ⟨i, hi⟩;simp;rcases hx : e.args[i]? with _ | x
   ·have hge : e.args.length <= i := by simpa using hx
    obtain rfl : i = e.args.length := by omega
    repeat' (first
  | (refine zaf rfl ?_; simp [hx])
  | fail)
    (refine Pst.of ?_; simp)
   ·have hlt : i < e.args.length := (List.getElem?_eq_some_iff.1 hx).1;have hat := znq hx;have hle := znp (l := e.args) (i + 1);have hn0 := zc0 (e.args.take i);have hnx := zeE x;have h5 := ziw m x (hch x (List.mem_of_getElem? hx)) (by omega);simp only [zcF] at h5
    repeat' (first
  | (refine Cnd.of (fun hc => ?_) (fun hc => ?_) <;> (try (exfalso; omega)) <;> (try simp [hx, x.row_eq]))
  | (refine zaf rfl ?_; simp [hx, x.row_eq])
  | (refine And.intro (by omega) ?_)
  | (refine CallP.f2 rfl (h5) (by first | simp [hx, x.row_eq] <;> rfl | fail) ?_; simp [hx, x.row_eq])
  | fail)
    all_goals
     refine LoopW.next ⟨i + 1, by omega⟩ (by simp; omega) ?_
     exact (Wk.zeX (by simp [hn, hat, Int.add_assoc] <;> grind))
end Go.Proofs.YtkdhmbhbbciedaaGreatDoor
namespace Go.Proofs.YtkdhmbhbbciedaaGreatDoor
open Go Go.VL
attribute [local simp] zaY zcB zbz evPure opd uOf zal St.put St.at getK binD binI binS binB nilD aggD zeS zfd lookD lookR zbE rangeS Go.VL.nextD Go.VL.nextS zbJ zfk zfe zeu zb7 mkV zaZ zcH zaL za1 mapEff zdw zek Key.kk shiftI arith unD convD zcP loadD cellsAt fieldAddrD fieldD indexAddrD indexSlD arrAddr indexD sliceD cutD lenD minmaxD nilCheckD buildD fillD zbn zcC zd1 setAll zcx zdZ zbD zeO zbC St.add zaj za6 rowsOf zcI zca zad zac zaa zaQ zcs zaG entry za2 za3 valD zbK zcq zeL zcD zcE zbp zbo zag zaB za0 delAll effD St.effS zb4 zaD zas zb5 zaE zau zbl zat zan zbm zb2 zaW zbj zaJ zbi zah mkD zbd za4 zbb zag zbN D.ids Op.operands Call.operands za5 makeIfD makeFuncD typeAssertD zfc zcL zcM zeY zbG IntKind.bits zbQ zam List.take_of_length_le List.range_succ zci zbx zcj zcd za7 zbq zbs zce zbu zaP zbt zbr zfJ zbw zcg zaH zav zch zaI zax zbv zaw zaq zcm zcn zfH zab frzN frz1 zaO zaN St.frz St.frzS frzS fv zbI zbV zcb zaM zay zao frz zcc zbH zbS zbT zaX St.norm St.lp St.only zaS wkE wkO wkU Ob.under D.under zai zap zck zby zcl h4s zdG zar zaV List.zipIdx_cons List.zipIdx_nil List.map_cons List.map_nil Nat.zero_add
attribute [local irreducible] V G H HD HD2 zaT Eff CallP CallV EndOK Fun Ret FinOK LoopI LoopW EndW HR vs2 RN Cnd H4
def znM (n m : Int) : List Let -> Int -> Int -> Bool
 | [], _, _ => true
 | l :: r, i, p => if i <= m then (if 60 < l.name.length \/ zn8 l.body n = false then false else if 2000 < p * (1 + zeo l.body) then false else znM n m r (i + 1) (p * (1 + zeo l.body))) else true
def zsu (l : List Let) (m n : Int) : Bool := znM n m l 0 1 && decide ((l.length : Int) <= m)
theorem zlQ (l : List Let) (m n : Int) (h0 : 0 <= n) (h1 : n <= 1000) (h2 : 0 <= m) (h3 : m <= 1000) : Fun Tryz.prog 29 [.u (zaz l), .u (.int .i64 m), .u (.int .i64 n)] (· = .u (.bool (zsu l m n))) := by
 unfold zsu;generalize hB : znM n m l 0 1 = B;refine Fun.run Tryz.func29 Tryz.ntmps29 Tryz.results29 rfl (by simp) fun Γ hn => ?_; simp only [entry, List.zipIdx_cons, List.zipIdx_nil, List.map_cons, List.map_nil, Nat.zero_add];simp only [zaz];refine zjW (x := 0) rfl fun hl => ?_;simp only [List.length_map] at hl
 repeat' (first
  | (refine zaf rfl ?_; simp)
  | fail)
 refine zdD (α := { q : Nat × Int // q.1 <= l.length /\ (q.1 : Int) <= m + 1 /\ 1 <= q.2 /\ q.2 <= 2000 /\ B = znM n m (l.drop q.1) q.1 q.2 }) [0, 1, 2] (fun q => [(7, .u (.int .i64 q.1.2)), (8, .u (.int .i64 q.1.1))]) (fun q => l.length - q.1.1) ⟨(0, 1), by simp, by simp; omega, by simp, by simp, by simp [hB]⟩ ?_ ?_
 ·exact (Wk.env rfl rfl rfl (by simp [wkE, St.lp, zaS, zaa, getK] <;> (try (intros; simp_all; done)) <;> (try (intros; omega)) <;> (try grind)))
 rintro ⟨⟨i, p⟩, hi, him, hp1, hp2, hb⟩;simp only at hi him hp1 hp2 hb;simp;rcases hx : l[i]? with _ | x
 ·have hge : l.length <= i := by simpa using hx
  obtain rfl : i = l.length := by omega
  rw [List.drop_length, znM] at hb
  repeat' (first
  | (refine zaf rfl ?_; simp [hx])
  | fail)
  all_goals
   (refine Pst.of ?_; simp)
  all_goals simp [hb]
 ·have hlt : i < l.length := (List.getElem?_eq_some_iff.1 hx).1;rw [List.drop_eq_getElem_cons hlt, (List.getElem?_eq_some_iff.1 hx).2, znM] at hb;by_cases hm : (i : Int) <= m
  ·rw [if_pos hm] at hb;have h5 := ziV x.body n h0 h1;simp only [zcF] at h5;by_cases hn60 : 60 < x.name.length
   ·rw [if_pos (.inl hn60)] at hb;cases hf : zn8 x.body n
    all_goals
     rw [hf] at h5
     repeat' (first
  | (refine Cnd.of (fun hc => ?_) (fun hc => ?_) <;> (try (exfalso; omega)) <;> (try simp [hx, hm]))
  | (refine zaf rfl ?_; simp [hx, hm])
  | fail)
     all_goals first
      | (exfalso; omega)
      | ((refine Pst.of ?_; simp); simp [hb]; done)
   ·cases hf : zn8 x.body n with
    | false =>
     rw [if_pos (.inr hf)] at hb;rw [hf] at h5
     repeat' (first
  | (refine Cnd.of (fun hc => ?_) (fun hc => ?_) <;> (try (exfalso; omega)) <;> (try simp [hx, hm]))
  | (refine zaf rfl ?_; simp [hx, hm])
  | (refine CallP.f2 rfl (h5) (by first | simp [hx, hm] <;> rfl | fail) ?_; simp [hx, hm])
  | fail)
     all_goals first
      | (exfalso; omega)
      | ((refine Pst.of ?_; simp); simp [hb]; done)
    | true =>
     rw [if_neg (by simp [hn60, hf])] at hb;rw [hf] at h5;have hfn : zeo x.body <= 1000 := by
      unfold zn8 at hf;simp only [decide_eq_true_eq] at hf;have := zkV 16 x.body n h0 hf;omega
     have hnn := zeE x.body;have h6 := ziw _ x.body (Nat.le_refl _) (by omega);simp only [zcF] at h6;generalize zeo x.body = y at h6 hb hfn hnn;have hpy : p * (1 + y) <= 2000 * 1001 := Int.mul_le_mul hp2 (by omega) (by omega) (by omega);have hpy1 : 1 <= p * (1 + y) := by
      have := Int.mul_le_mul hp1 (show (1 : Int) <= 1 + y by omega) (by omega) (by omega);omega
     repeat' (first
  | (refine Cnd.of (fun hc => ?_) (fun hc => ?_) <;> (try (exfalso; omega)) <;> (try simp [hx, hm]))
  | (refine zaf rfl ?_; simp [hx, hm])
  | (refine And.intro (by omega) ?_)
  | ((first | refine CallP.f2 rfl (h5) (by first | simp [hx, hm] <;> rfl | fail) ?_ | refine CallP.f2 rfl (h6) (by first | simp [hx, hm] <;> rfl | fail) ?_ | fail); simp [hx, hm])
  | fail)
     all_goals first
      | (exfalso; omega)
      | ((refine Pst.of ?_; simp); rw [if_pos (by omega)] at hb; simp [hb]; done)
      | (refine LoopW.next ⟨(i + 1, p * (1 + y)), (by omega : i + 1 <= l.length), (by simp; omega), hpy1, (by omega : p * (1 + y) <= 2000), by rw [if_neg (by omega)] at hb; simpa using hb⟩ (by simp; omega) ?_; exact (Wk.env rfl rfl rfl (by simp [wkE, St.lp, zaS, zaa, getK] <;> (try (intros; simp_all; done)) <;> (try (intros; omega)) <;> (try grind))))
  ·rw [if_neg hm] at hb
   repeat' (first
  | (refine Cnd.of (fun hc => ?_) (fun hc => ?_) <;> (try (exfalso; omega)) <;> (try simp [hx, hm]))
  | (refine zaf rfl ?_; simp [hx, hm])
  | fail)
   (refine Pst.of ?_; simp)
   simp [hb]
theorem zgg {lets : List Let} {e : Exp} (h : zbW lets e = true) : lets.length <= 20 /\ zba 12 e = true /\ ∀ l ∈ lets, zba 12 l.body = true := by
 simp only [zbW, Bool.and_eq_true, decide_eq_true_eq, Bool.not_eq_true', List.any_eq_false] at h;exact ⟨h.1.1, h.1.2, fun l hl => by simpa using h.2 l hl⟩
mutual
def zeP (s : List UInt8) : Exp -> Bool
 | .mk op _ _ t args => (decide (op = 1) && decide (t = s)) || zh5 s args
def zh5 (s : List UInt8) : List Exp -> Bool
 | [] => false
 | e :: r => zeP s e || zh5 s r
end
theorem zp3 (s) (e : Exp) : zeP s e = ((decide (e.op = 1) && decide (e.s = s)) || zh5 s e.args) := by cases e with | mk op n u t args => rw [zeP]; rfl
theorem zhb (s) : ∀ l : List Exp, zh5 s l = l.any (zeP s)
 | [] => by rw [zh5]; rfl
 | e :: r => by rw [zh5, List.any_cons, zhb s r]
end Go.Proofs.YtkdhmbhbbciedaaGreatDoor
namespace Go.Proofs.YtkdhmbhbbciedaaGreatDoor
open Go Go.VL
section
attribute [local simp] zaY zcB zbz evPure opd uOf zal St.put St.at getK binD binI binS binB nilD aggD zeS zfd lookD lookR zbE rangeS Go.VL.nextD Go.VL.nextS zbJ zfk zfe zeu zb7 mkV zaZ zcH zaL za1 mapEff zdw zek Key.kk shiftI arith unD convD zcP loadD cellsAt fieldAddrD fieldD indexAddrD indexSlD arrAddr indexD sliceD cutD lenD minmaxD nilCheckD buildD fillD zbn zcC zd1 setAll zcx zdZ zbD zeO zbC St.add zaj za6 rowsOf zcI zca zad zac zaa zaQ zcs zaG entry za2 za3 valD zbK zcq zeL zcD zcE zbp zbo zag zaB za0 delAll effD St.effS zb4 zaD zas zb5 zaE zau zbl zat zan zbm zb2 zaW zbj zaJ zbi zah mkD zbd za4 zbb zag zbN D.ids Op.operands Call.operands za5 makeIfD makeFuncD typeAssertD zfc zcL zcM zeY zbG IntKind.bits zbQ zam List.take_of_length_le List.range_succ zci zbx zcj zcd za7 zbq zbs zce zbu zaP zbt zbr zfJ zbw zcg zaH zav zch zaI zax zbv zaw zaq zcm zcn zfH zab frzN frz1 zaO zaN St.frz St.frzS frzS fv zbI zbV zcb zaM zay zao frz zcc zbH zbS zbT zaX St.norm St.lp St.only zaS wkE wkO wkU Ob.under D.under zai zap zck zby zcl h4s zdG zar zaV List.zipIdx_cons List.zipIdx_nil List.map_cons List.map_nil Nat.zero_add
attribute [local irreducible] V G H HD HD2 zaT Eff CallP CallV EndOK Fun Ret FinOK LoopI LoopW EndW HR vs2 RN Cnd H4
theorem zmO (s : List UInt8) (b : Exp) : ∀ (m : Nat) (e : Exp), SizeOf.sizeOf e <= m -> zh6 e = true -> Fun Tryz.prog 24 [zcF e, .u (.str s), zcF b] (· = zcF (zfv s b e))
 | 0, e, hm, _ => by cases e; simp at hm
 | m + 1, e, hm, ht => by
  obtain ⟨hl, hth⟩ := (zj7 e).1 ht;have ih : ∀ x ∈ e.args, Fun Tryz.prog 24 [zcF x, .u (.str s), zcF b] (· = zcF (zfv s b x)) := fun x hx => by
   refine zmO s b m x ?_ (hth x hx);have h1 := List.sizeOf_lt_of_mem hx;cases e with | mk op n u t args => simp [Exp.args] at h1 hm; omega
  rw [zse];by_cases h1 : e.op = 1 /\ e.s = s
  ·rw [if_pos h1];obtain ⟨h1, h2⟩ := h1;refine Fun.runW Tryz.func24 Tryz.ntmps24 rfl (by simp) fun Γ hn => ?_; simp only [entry, List.zipIdx_cons, List.zipIdx_nil, List.map_cons, List.map_nil, Nat.zero_add];simp only [zcF]
   repeat' (first
  | (refine zaf rfl ?_; simp [h1, h2])
  | fail)
   refine EndW.norm (EndW.here ?_)
   (refine EndOK.val (.inr rfl) ?_; simp [Tryz.results24])
  rw [if_neg h1, zsA];simp only [zcF] at ih ⊢;have hA0 : (fun i => (e.args.take i).map fun x => (zfv s b x).row) 0 = [] := rfl;have hAl : ∀ i, i <= e.args.length -> ((fun i => (e.args.take i).map fun x => (zfv s b x).row) i).length = i := fun i hi => by simp; omega
  have hAn : ∀ i x, e.args[i]? = some x -> (fun i => (e.args.take i).map fun x => (zfv s b x).row) (i + 1) = (fun i => (e.args.take i).map fun x => (zfv s b x).row) i ++ [(zfv s b x).row] := fun i x hx => by
   have hlt : i < e.args.length := (List.getElem?_eq_some_iff.1 hx).1;simp only;rw [List.take_succ_eq_append_getElem hlt, List.map_append, (List.getElem?_eq_some_iff.1 hx).2]; rfl
  have hAe : (e.args.map (zfv s b)).map Exp.row = (fun i => (e.args.take i).map fun x => (zfv s b x).row) e.args.length := by simp [Function.comp_def]
  rw [hAe];generalize (fun i => (e.args.take i).map fun x => (zfv s b x).row) = A at hA0 hAl hAn;by_cases hop : e.op = 1
  all_goals
   try have hop2 : ¬ e.s = s := fun h => h1 ⟨hop, h⟩
   refine Fun.runW Tryz.func24 Tryz.ntmps24 rfl (by simp) fun Γ hn => ?_
   repeat' (first
  | (refine zaf rfl ?_; simp [*])
  | fail)
   refine zn9 _ (Wk.ownC 3 _ 4 25 5 (by decide) rfl rfl) ?_;simp [St.ownC];refine zdg (α := { i : Nat // i <= e.args.length }) [1, 3, 5, 6, 7] (fun i => [(8, .u (.int .i64 i.1))])
    (fun i => [(3, .box [.u (.int .i64 e.op), .u (.int .i64 e.n), .u (.int .i64 e.unit), .u (.str e.s), .vec 4 i.1]), (4, .vec 25 5 (rowsD (A i.1))), (2, .box [.u (.int .i64 0), .u (.int .i64 0), .u (.int .i64 0), .u (.str []), .u (.sl [])]), (1, .box [.u (.int .i64 b.op), .u (.int .i64 b.n), .u (.int .i64 b.unit), .u (.str b.s), .u (.sl (b.args.map Exp.row))]), (0, .box [.u (.int .i64 e.op), .u (.int .i64 e.n), .u (.int .i64 e.unit), .u (.str e.s), .u (.sl (e.args.map Exp.row))])]) 5
    (fun i => e.args.length - i.1) ⟨0, by omega⟩ ?_ ?_
   ·exact (Wk.ren ((fun i => i)) rfl (by first | (simp [hn]; done) | (intro i hi; rw [hn] at hi; constructor <;> (try simp) <;> (try (intro _)) <;> omega)) (by simp [zfK, St.lp, zaS, zaa, getK, zac, zad, D.under, D.le, D.ren, hA0] <;> (try (intros; simp_all; done)) <;> (try omega)) (by simp [wkR, St.lp, zaa, getK, zac, zad, obR, leU, zbe, zaF, Ob.under, D.under, D.le, D.ren, hA0] <;> (try (intros; simp_all; done)) <;> (try omega)) (by simp [hA0]))
   rintro ⟨i, hi⟩;have hal := hAl i hi;have htk : (A i).take i = A i := List.take_of_length_le (by omega);simp;rcases hx : e.args[i]? with _ | x
   ·have hge : e.args.length <= i := by simpa using hx
    obtain rfl : i = e.args.length := by omega
    repeat' (first
  | (refine zaf rfl ?_; simp [hx])
  | fail)
    (refine EndW.frzN 1 ?_; simp [del, hal, htk])
    refine EndW.norm (EndW.here ?_)
    (refine EndOK.val (.inr rfl) ?_; simp [Tryz.results24])
    all_goals exact hop
   ·have hlt : i < e.args.length := (List.getElem?_eq_some_iff.1 hx).1;have h5 := ih x (List.mem_of_getElem? hx);have hnext := hAn i x hx;rw [Exp.row_eq] at hnext
    repeat' (first
  | (refine Cnd.of (fun hc => ?_) (fun hc => ?_) <;> (try (exfalso; omega)) <;> (try simp [hx, x.row_eq]))
  | (refine zaf rfl ?_; simp [hx, x.row_eq])
  | (refine And.intro (by omega) ?_)
  | (refine ⟨hC _ (by kernel_rfl), hk _ (zel 8 _ _ _ ?_)⟩; clear hC hk C k; simp [hx, x.row_eq])
  | (refine zeW rfl (by kernel_rfl) (by first | (simp [hn]; done) | (simp [hn]; omega) | fail) fun C k hC hk => ?_; simp [hx, x.row_eq])
  | (refine zc7 rfl ?_; simp [hx, x.row_eq])
  | (refine zdN rfl ?_; simp [hx, x.row_eq])
  | (refine CallV.f2 rfl (h5) (by first | simp [hx, x.row_eq] <;> rfl | fail) ?_; simp [hx, x.row_eq])
  | fail)
    refine LoopW.next ⟨i + 1, (by omega : i + 1 <= e.args.length)⟩ (by simp; omega) ?_
    exact (Wk.ren ((fun i => if i = 4 then 6 else i)) rfl (by first | (simp [hn]; done) | (intro i hi; rw [hn] at hi; constructor <;> (try simp) <;> (try (intro _)) <;> omega)) (by simp [zfK, St.lp, zaS, zaa, getK, zac, zad, D.under, D.le, D.ren, hnext, htk] <;> (try (intros; simp_all; done)) <;> (try omega)) (by simp [wkR, St.lp, zaa, getK, zac, zad, obR, leU, zbe, zaF, Ob.under, D.under, D.le, D.ren, hnext, htk] <;> (try (intros; simp_all; done)) <;> (try omega)) (by simp [hnext, htk]))
theorem ziY (s : List UInt8) : ∀ (m : Nat) (e : Exp), SizeOf.sizeOf e <= m -> Fun Tryz.prog 25 [zcF e, .u (.str s)] (· = .u (.bool (zeP s e)))
 | 0, e, hm => by cases e; simp at hm
 | m + 1, e, hm => by
  have hch : ∀ x ∈ e.args, SizeOf.sizeOf x <= m := fun x hx => by
   cases e with
   | mk op n u s args =>
    have h1 := List.sizeOf_lt_of_mem (show x ∈ args from hx);simp at hm;omega
  rw [zp3, zhb];generalize hA : e.args.any (zeP s) = A;refine Fun.run Tryz.func25 Tryz.ntmps25 Tryz.results25 rfl (by simp) fun Γ hn => ?_; simp only [entry, List.zipIdx_cons, List.zipIdx_nil, List.map_cons, List.map_nil, Nat.zero_add];simp only [zcF];refine zpN (x := 0) (j := 4) rfl rfl fun hl => ?_;simp only [List.length_map] at hl
  repeat' (first
  | (refine zaf rfl ?_; simp)
  | fail)
  refine zdg (α := { i : Nat // i <= e.args.length /\ ∀ x ∈ e.args.take i, zeP s x = false }) [1, 2] (fun i => [(5, .u (.int .i64 i.1))])
   (fun i => [(0, .box [.u (.int .i64 e.op), .u (.int .i64 e.n), .u (.int .i64 e.unit), .u (.str e.s), .u (.sl (e.args.map Exp.row))])]) 1 (fun i => e.args.length - i.1) ⟨0, by omega, by simp⟩ ?_ ?_
  ·exact (Wk.zeX (by simp [hn] <;> grind))
  rintro ⟨i, hi, hb⟩;simp;rcases hx : e.args[i]? with _ | x
  ·have hge : e.args.length <= i := by simpa using hx
   obtain rfl : i = e.args.length := by omega
   rw [List.take_length] at hb;have hAf : A = false := by rw [<- hA, List.any_eq_false]; intro x hx; simp [hb x hx]
   rw [hAf];by_cases hop : e.op = 1
   all_goals
    repeat' (first
  | (refine zaf rfl ?_; simp [hx, hop])
  | fail)
    (refine Pst.of ?_; simp)
  ·have hlt : i < e.args.length := (List.getElem?_eq_some_iff.1 hx).1;have h5 := ziY s m x (hch x (List.mem_of_getElem? hx));simp only [zcF] at h5;cases hu : zeP s x
   ·rw [hu] at h5
    repeat' (first
  | (refine Cnd.of (fun hc => ?_) (fun hc => ?_) <;> (try (exfalso; omega)) <;> (try simp [hx, x.row_eq]))
  | (refine zaf rfl ?_; simp [hx, x.row_eq])
  | (refine And.intro (by omega) ?_)
  | (refine CallP.f2 rfl (h5) (by first | simp [hx, x.row_eq] <;> rfl | fail) ?_; simp [hx, x.row_eq])
  | fail)
    refine LoopW.next ⟨i + 1, by omega, zcT hx hb hu⟩ (by simp; omega) ?_
    exact (Wk.zeX (by simp [hn] <;> grind))
   ·rw [hu] at h5;have hAt : A = true := by rw [<- hA, List.any_eq_true]; exact ⟨x, List.mem_of_getElem? hx, hu⟩
    rw [hAt]
    repeat' (first
  | (refine Cnd.of (fun hc => ?_) (fun hc => ?_) <;> (try (exfalso; omega)) <;> (try simp [hx, x.row_eq]))
  | (refine zaf rfl ?_; simp [hx, x.row_eq])
  | (refine CallP.f2 rfl (h5) (by first | simp [hx, x.row_eq] <;> rfl | fail) ?_; simp [hx, x.row_eq])
  | fail)
    (refine Pst.of ?_; simp)
theorem zrh (lets : List Let) (e : Exp) : Fun Tryz.prog 10 [.u (zaz lets), zcF e] (· = .u (.bool (zsu lets 4 30 && zn8 e 30))) := by
 have h1 := zlQ lets 4 30 (by omega) (by omega) (by omega) (by omega);have h2 := ziV e 30 (by omega) (by omega);generalize zsu lets 4 30 = x at *;generalize zn8 e 30 = y at *;simp only [zaz, zcF] at h1 h2 ⊢;cases x <;> cases y
 all_goals
  refine Fun.run Tryz.func10 Tryz.ntmps10 Tryz.results10 rfl (by simp) fun Γ hn => ?_
  repeat' (first
  | (refine zaf rfl ?_; simp)
  | ((first | refine CallP.f2 rfl (h1) (by first | simp <;> rfl | fail) ?_ | refine CallP.f2 rfl (h2) (by first | simp <;> rfl | fail) ?_ | fail); simp)
  | fail)
  (refine Pst.of ?_; simp)
end
end Go.Proofs.YtkdhmbhbbciedaaGreatDoor
namespace Go.Proofs.YtkdhmbhbbciedaaGreatDoor
open Go Go.VL
def zgC (lets : List Let) (e : Exp) : Bool := zbW lets e && shareS (sF (mOf [] lets)) e
abbrev Tab := List (Int × Int × Bool)
def zo2 (n : Int) : Except Int Int := if 1099511627776 < n \/ n < -1099511627776 then .error 3 else .ok n
def zrU (a b : Int) : Int := if a.tdiv b * b ≠ a /\ ¬ (a < 0 ↔ b < 0) then a.tdiv b - 1 else a.tdiv b
def zuj (a b c : Int) : Except Int Int :=
 if a ≠ 0 /\ ((1099511627777 * c).tdiv (max a (-a)) < b \/ b < (-(1099511627777 * c)).tdiv (max a (-a))) then .error 3 else zo2 (zrU (a * b) c)
def zdu (b : Bool) : Int := if b = true then 1 else 0
def zyd (op : Int) (sh : Bool) (a b : Int) : Except Int Int :=
 if op = 2 then zo2 (a + b) else if op = 3 then zo2 (a - b) else if op = 4 then zuj a b (if sh = true then 1000 else 1)
 else if op = 5 then (if b = 0 then .error 15 else zo2 (zrU a b))
 else if op = 6 then .ok (min a b) else if op = 7 then .ok (max a b) else if op = 8 then .ok (zdu (decide (a < b))) else .ok (zdu (decide (a = b)))
abbrev TM := Tab -> Except Int Int × Tab
def TM.bind (f : TM) (g : Int -> TM) : TM := fun t => match f t with | (.ok v, t') => g v t' | (.error e, t') => (.error e, t')
def TM.ret (x : Except Int Int) : TM := fun t => (x, t)
theorem TM.bind_ok {f : TM} {g : Int -> TM} {t t' : Tab} {v : Int} (h : f t = (.ok v, t')) : f.bind g t = g v t' := by unfold TM.bind; rw [h]
mutual
def zui (nm : List UInt8 -> TM) (sh : Exp -> Bool) : Exp -> TM
 | .mk op n _ s args =>
  if op = 0 then .ret (zo2 n)
  else if op = 1 then nm s
  else if op = 10 then (zog nm sh args 0).bind fun a => if a = 0 then .ret (.ok 0) else (zog nm sh args 1).bind fun b => .ret (.ok (zdu (decide (b ≠ 0))))
  else if op = 11 then (zog nm sh args 0).bind fun a => if a ≠ 0 then .ret (.ok 1) else (zog nm sh args 1).bind fun b => .ret (.ok (zdu (decide (b ≠ 0))))
  else if op = 12 then (zog nm sh args 0).bind fun a => .ret (.ok (zdu (decide (a = 0))))
  else if op = 13 then (zog nm sh args 0).bind fun a => if a ≠ 0 then zog nm sh args 1 else zog nm sh args 2
  else (zog nm sh args 0).bind fun a => (zog nm sh args 1).bind fun b => .ret (zyd op ((args.take 2).any sh) a b)
def zog (nm : List UInt8 -> TM) (sh : Exp -> Bool) : List Exp -> Nat -> TM
 | [], _ => .ret (.error 0)
 | e :: _, 0 => zui nm sh e
 | _ :: r, i + 1 => zog nm sh r i
end
def zxv : Except Int Int -> Int × Int × Bool
 | .ok v => (v, 0, true)
 | .error e => (0, e, true)
def inC (v : Int) : Prop := -1099511627776 <= v /\ v <= 1099511627776
theorem zj4 (b : Bool) : inC (zdu b) := by unfold inC zdu; split <;> omega
structure TabOK (L : Nat) (t : Tab) : Prop where
 len : t.length = L
 small : ∀ (i : Nat) (v e : Int) (d : Bool), t[i]? = some (v, e, d) -> inC v
def TMok (L : Nat) (f : TM) : Prop := ∀ t, TabOK L t -> TabOK L (f t).2 /\ (∀ v, (f t).1 = .ok v -> inC v) /\ (∀ e, (f t).1 = .error e -> e ≠ 0)
theorem TMok.bind {L f g} (hf : TMok L f) (hg : ∀ a, inC a -> TMok L (g a)) : TMok L (TM.bind f g) := fun t ht => by
 obtain ⟨h1, h2, h3⟩ := hf t ht;unfold TM.bind;rcases hft : f t with ⟨r | v, t'⟩
 ·rw [hft] at h1 h3;refine ⟨h1, ?_, ?_⟩
  ·intro v h; cases h
  ·intro e h; exact h3 e h
 ·rw [hft] at h1 h2;exact hg v (h2 v rfl) t' h1
theorem TMok.ret {L} {x : Except Int Int} (h : ∀ v, x = .ok v -> inC v) (he : ∀ e, x = .error e -> e ≠ 0) : TMok L (TM.ret x) := fun t ht => ⟨ht, h, he⟩
theorem TMok.ok {L} {v : Int} (h : inC v) : TMok L (TM.ret (.ok v)) := .ret (fun w hw => by cases hw; exact h) (fun e he => by cases he)
end Go.Proofs.YtkdhmbhbbciedaaGreatDoor
namespace Go.Proofs.YtkdhmbhbbciedaaGreatDoor
open Go Go.VL
def TM.Pure (f : TM) : Prop := ∀ t, f t = ((f []).1, t)
theorem TM.Pure.ret (x) : TM.Pure (TM.ret x) := fun t => rfl
theorem TM.Pure.bind {f : TM} {g : Int -> TM} (hf : f.Pure) (hg : ∀ a, (g a).Pure) : (f.bind g).Pure := fun t => by
 unfold TM.bind;rw [hf t, hf []];rcases (f []).1 with e | v
 ·rfl
 ·exact hg v t
def nmP (lets : List Let) (G : List UInt8 -> Option Int) : Nat -> List UInt8 -> TM
 | 0, s => .ret (match G s with | some v => .ok v | none => .error 13)
 | n + 1, s => match G s with
  | some v => .ret (.ok v)
  | none => match lets[n]? with
   | none => .ret (.error 13)
   | some l => if l.name = s then .ret (zui (nmP lets G n) (zgC (lets.take n)) l.body []).1 else nmP lets G n s
def zvD (lets : List Let) (G : List UInt8 -> Option Int) (n : Nat) (e : Exp) : Except Int Int := (zui (nmP lets G n) (zgC (lets.take n)) e []).1
def zve (lets : List Let) (G : List UInt8 -> Option Int) (t : Tab) : Prop := ∀ (i : Nat) (v e : Int), t[i]? = some (v, e, true) -> ∃ l, lets[i]? = some l /\ (v, e, true) = zxv (zvD lets G i l.body)
def Sm (lets : List Let) (G : List UInt8 -> Option Int) (f f' : TM) : Prop := ∀ t, TabOK lets.length t -> zve lets G t -> (f t).1 = (f' []).1 /\ zve lets G (f t).2
theorem Sm.ret {lets G x} : Sm lets G (TM.ret x) (TM.ret x) := fun t _ h => ⟨rfl, h⟩
theorem Sm.bind {lets G} {f f' : TM} {g g' : Int -> TM} (hf : Sm lets G f f') (hk : TMok lets.length f) (hp : f'.Pure) (hg : ∀ a, Sm lets G (g a) (g' a)) : Sm lets G (f.bind g) (f'.bind g') := fun t h1 h2 => by
 obtain ⟨e1, v1⟩ := hf t h1 h2;obtain ⟨k1, _, _⟩ := hk t h1;unfold TM.bind;rcases hft : f t with ⟨er | v, t'⟩
 ·rw [hft] at e1 v1;simp only at e1 v1;rw [hp [], <- e1];exact ⟨rfl, v1⟩
 ·rw [hft] at e1 v1 k1;simp only at e1 v1 k1;rw [hp [], <- e1];exact hg v t' k1 v1
end Go.Proofs.YtkdhmbhbbciedaaGreatDoor
namespace Go.Proofs.YtkdhmbhbbciedaaGreatDoor
open Go Go.VL
end Go.Proofs.YtkdhmbhbbciedaaGreatDoor
namespace Go.Proofs.YtkdhmbhbbciedaaGreatDoor
open Go Go.VL
end Go.Proofs.YtkdhmbhbbciedaaGreatDoor
namespace Go.Proofs.YtkdhmbhbbciedaaGreatDoor
open Go Go.VL
abbrev Ins := Vm.Ins
abbrev Code := List Ins
def zb8 (c : Code) (i : Ins) : Code := if c.length <= 2000 then c ++ [i] else c
def zdp (c : Code) (j : Nat) : Code := match c[j]? with | some x => c.set j { x with a := c.length } | none => c
def zdl (c : Code) : Code := zb8 (zb8 c ⟨11, 0, []⟩) ⟨11, 0, []⟩
def zbL (A B D : Code -> Code) (c : Code) : Code :=
 zdp (D (zdp (zb8 (B (zb8 (A c) ⟨13, 0, []⟩)) ⟨12, 0, []⟩) ((zb8 (A c) ⟨13, 0, []⟩).length - 1))) ((zb8 (B (zb8 (A c) ⟨13, 0, []⟩)) ⟨12, 0, []⟩).length - 1)
def zbY (sh : Exp -> Bool) (op : Int) (args : List Exp) : Int :=
 if op = 2 then 2 else if op = 3 then 3 else if op = 5 then 5 else if op = 6 then 7 else if op = 7 then 8 else if op = 8 then 9 else if op = 9 then 10 else if op = 12 then 11
 else if (args.take 2).any sh = true then 6 else 4
mutual
def zfV (nm : List UInt8 -> Code -> Code) (sh : Exp -> Bool) : Exp -> Code -> Code
 | .mk op n _ s args => fun c =>
  if 2000 < c.length then c
  else if op = 0 then zb8 c ⟨0, n, []⟩
  else if op = 1 then nm s c
  else if op = 10 then zbL (zfI nm sh args 0) (fun c => zdl (zfI nm sh args 1 c)) (fun c => zb8 c ⟨0, 0, []⟩) c
  else if op = 11 then zbL (zfI nm sh args 0) (fun c => zb8 c ⟨0, 1, []⟩) (fun c => zdl (zfI nm sh args 1 c)) c
  else if op = 13 then zbL (zfI nm sh args 0) (zfI nm sh args 1) (zfI nm sh args 2) c
  else zb8 (zga nm sh args c) ⟨zbY sh op args, 0, []⟩
def zfI (nm : List UInt8 -> Code -> Code) (sh : Exp -> Bool) : List Exp -> Nat -> Code -> Code
 | [], _ => fun c => c
 | e :: _, 0 => zfV nm sh e
 | _ :: r, i + 1 => zfI nm sh r i
def zga (nm : List UInt8 -> Code -> Code) (sh : Exp -> Bool) : List Exp -> Code -> Code
 | [] => fun c => c
 | e :: r => fun c => zga nm sh r (zfV nm sh e c)
end
theorem zgn (nm sh) (e : Exp) (c : Code) : zfV nm sh e c = if 2000 < c.length then c
  else if e.op = 0 then zb8 c ⟨0, e.n, []⟩
  else if e.op = 1 then nm e.s c
  else if e.op = 10 then zbL (zfI nm sh e.args 0) (fun c => zdl (zfI nm sh e.args 1 c)) (fun c => zb8 c ⟨0, 0, []⟩) c
  else if e.op = 11 then zbL (zfI nm sh e.args 0) (fun c => zb8 c ⟨0, 1, []⟩) (fun c => zdl (zfI nm sh e.args 1 c)) c
  else if e.op = 13 then zbL (zfI nm sh e.args 0) (zfI nm sh e.args 1) (zfI nm sh e.args 2) c
  else zb8 (zga nm sh e.args c) ⟨zbY sh e.op e.args, 0, []⟩ := by
 cases e with | mk op n u s args => rw [zfV]; rfl
def nmC (lets : List Let) (sh : Nat -> Exp -> Bool) : Nat -> List UInt8 -> Code -> Code
 | 0, s => fun c => zb8 c ⟨1, 0, s⟩
 | n + 1, s => match lets[n]? with
  | none => fun c => zb8 c ⟨1, 0, s⟩
  | some l => if l.name = s then zfV (nmC lets sh n) (sh n) l.body else nmC lets sh n s
def Pre (F : Code -> Code) : Prop := ∀ c : Code, c.length <= (F c).length /\ ∀ i, i < c.length -> (F c)[i]? = c[i]?
theorem Pre.id : Pre fun c => c := fun c => ⟨Nat.le_refl _, fun _ _ => rfl⟩
theorem zcy (x : Ins) (c : Code) : c.length <= (zb8 c x).length /\ ∀ i, i < c.length -> (zb8 c x)[i]? = c[i]? := by
 unfold zb8;split
 ·exact ⟨by simp, fun i hi => by rw [List.getElem?_append_left hi]⟩
 ·exact ⟨Nat.le_refl _, fun _ _ => rfl⟩
theorem Pre.put (x : Ins) : Pre fun c => zb8 c x := fun c => zcy x c
theorem Pre.comp {F G : Code -> Code} (hF : Pre F) (hG : Pre G) : Pre fun c => G (F c) := fun c => by
 obtain ⟨h1, h2⟩ := hF c;obtain ⟨h3, h4⟩ := hG (F c);exact ⟨Nat.le_trans h1 h3, fun i hi => (h4 i (by omega)).trans (h2 i hi)⟩
theorem zbA (c : Code) (j : Nat) : (zdp c j).length = c.length := by
 unfold zdp;split <;> simp
theorem zcJ (c : Code) (j i : Nat) (h : i ≠ j) : (zdp c j)[i]? = c[i]? := by
 unfold zdp;split
 ·rw [List.getElem?_set]; simp [Ne.symm h]
 ·rfl
theorem zgY {c : Code} {j : Nat} {x : Ins} (h : c[j]? = some x) : (zdp c j)[j]? = some { x with a := c.length } := by
 unfold zdp;rw [h];have := (List.getElem?_eq_some_iff.1 h).1;simp [this]
theorem zfh (c : Code) (x : Ins) : (zb8 c x).length = if c.length <= 2000 then c.length + 1 else c.length := by
 unfold zb8; split <;> simp
theorem zea (c : Code) (x : Ins) : 0 < (zb8 c x).length := by rw [zfh]; split <;> omega
theorem Pre.choice {A B D : Code -> Code} (hA : Pre A) (hB : Pre B) (hD : Pre D) (c : Code) (hc2 : c.length <= 2000) : c.length <= (zbL A B D c).length /\ ∀ i, i < c.length -> (zbL A B D c)[i]? = c[i]? := by
 unfold zbL;obtain ⟨a1, a2⟩ := hA c;obtain ⟨p1, p2⟩ := zcy ⟨13, 0, []⟩ (A c);have k1 := zfh (A c) ⟨13, 0, []⟩;generalize zb8 (A c) ⟨13, 0, []⟩ = c2 at *;obtain ⟨b1, b2⟩ := hB c2;obtain ⟨q1, q2⟩ := zcy ⟨12, 0, []⟩ (B c2);have k2 := zfh (B c2) ⟨12, 0, []⟩;generalize zb8 (B c2) ⟨12, 0, []⟩ = c4 at *;obtain ⟨d1, d2⟩ := hD (zdp c4 (c2.length - 1));rw [zbA] at d1 d2;rw [zbA];have k3 : c.length <= c2.length - 1 := by split at k1 <;> omega
 have k4 : c.length <= c4.length - 1 := by split at k2 <;> split at k1 <;> omega
 refine ⟨by omega, fun i hi => ?_⟩;rw [zcJ _ _ _ (by omega), d2 i (by omega), zcJ _ _ _ (by omega), q2 i (by omega), b2 i (by omega), p2 i (by omega), a2 i hi]
theorem Pre.truth : Pre zdl := (Pre.put _).comp (Pre.put _)
mutual
theorem zg2 {nm : List UInt8 -> Code -> Code} {sh : Exp -> Bool} (hn : ∀ s, Pre (nm s)) : ∀ e : Exp, Pre (zfV nm sh e)
 | .mk op n u s args => fun c => by
  have h := fun i => zmD (sh := sh) hn args i;have hA := zmH (sh := sh) hn args;rw [zfV];simp only;split
  ·exact Pre.id c
  rename_i hc2;have hc3 : c.length <= 2000 := by omega
  split
  ·exact Pre.put _ c
  split
  ·exact hn s c
  split
  ·exact Pre.choice (h 0) ((h 1).comp Pre.truth) (Pre.put _) c hc3
  split
  ·exact Pre.choice (h 0) (Pre.put _) ((h 1).comp Pre.truth) c hc3
  split
  ·exact Pre.choice (h 0) (h 1) (h 2) c hc3
  ·exact (hA.comp (Pre.put _)) c
theorem zmD {nm : List UInt8 -> Code -> Code} {sh : Exp -> Bool} (hn : ∀ s, Pre (nm s)) : ∀ (l : List Exp) (i : Nat), Pre (zfI nm sh l i)
 | [], i => by rw [zfI]; exact Pre.id
 | e :: l, 0 => by rw [zfI]; exact zg2 hn e
 | e :: l, i + 1 => by rw [zfI]; exact zmD hn l i
theorem zmH {nm : List UInt8 -> Code -> Code} {sh : Exp -> Bool} (hn : ∀ s, Pre (nm s)) : ∀ (l : List Exp), Pre (zga nm sh l)
 | [] => by rw [zga]; exact Pre.id
 | e :: l => by rw [zga]; exact (zg2 hn e).comp (zmH hn l)
end
theorem zlB {lets sh} : ∀ (n : Nat) (s : List UInt8), Pre (nmC lets sh n s)
 | 0, s => by rw [nmC]; exact Pre.put _
 | n + 1, s => by
  rw [nmC];split
  ·exact Pre.put _
  ·split
   ·exact zg2 (zlB n) _
   ·exact zlB n s
open Vm in
def Steps (C : Code) (vs : List Vm.Var) (q : Nat) (m m' : Mach) : Prop := ∀ (fuel : Int) (K : Nat) (n : Int), zrM C vs fuel (q + K) n m = zrM C vs fuel K (n + q) m'
open Vm in
def Ends (C : Code) (vs : List Vm.Var) (q : Nat) (m : Mach) (v e : Int) : Prop := ∀ (fuel : Int) (K : Nat) (n : Int), zrM C vs fuel (q + K) n m = (v, n + q, e)
section
open Vm
variable {C : Code} {vs : List Vm.Var} {m m' m'' : Mach} {q q' : Nat} {v e : Int}
theorem Steps.zero : Steps C vs 0 m m := fun fuel K n => by simp
theorem Steps.trans (h : Steps C vs q m m') (g : Steps C vs q' m' m'') : Steps C vs (q + q') m m'' := fun fuel K n => by
 rw [show q + q' + K = q + (q' + K) by omega, h, g]
 congr 1
 omega
theorem Steps.ends (h : Steps C vs q m m') (g : Ends C vs q' m' v e) : Ends C vs (q + q') m v e := fun fuel K n => by
 rw [show q + q' + K = q + (q' + K) by omega, h, g];simp;omega
theorem Steps.one (h : zm5 C vs m = m') (hm : m'.en = false) : Steps C vs 1 m m' := fun fuel K n => by
 rw [show 1 + K = K + 1 by omega, zrM];simp [h, hm]
theorem Ends.one (h : zm5 C vs m = m') (hm : m'.en = true) : Ends C vs 1 m m'.va m'.er := fun fuel K n => by
 rw [show 1 + K = K + 1 by omega, zrM];simp [h, hm]
end
abbrev at_ (p : Nat) (S : List Int) (va er : Int) : Vm.Mach := ⟨p, S, false, va, er⟩
def okS (S : List Int) : Prop := ∀ x ∈ S, Vm.okv x = true
theorem okS.snoc {S : List Int} {x : Int} (h : okS S) (hx : Vm.okv x = true) : okS (S ++ [x]) := fun y hy => by
 rcases List.mem_append.1 hy with hy | hy
 ·exact h y hy
 ·simp at hy; subst hy; exact hx
section
open Vm
theorem zjd {C : Code} {vs : List Vm.Var} {p : Nat} {S : List Int} {va er : Int} {i : Ins} (hi : C[p]? = some i) (hop : 0 <= i.op /\ i.op < 15) (hl : zkC i.op <= S.length) (hS : okS S) : zm5 C vs (at_ p S va er) = zgd vs (at_ p S va er) i := by
 rw [zqf (c := i) (by simp) (by simpa using hi), if_neg];rintro (h | h | h | h)
 ·omega
 ·omega
 ·simp only at h; omega
 ·obtain ⟨x, hx, h⟩ := List.any_eq_true.1 h;rw [hS x hx] at h;cases h
theorem zkA {x : Int} (h : inC x) : okv x = true := by unfold inC at h; simp [okv, h]
variable {C : Code} {vs : List Vm.Var} {p : Nat} {S : List Int} {va er : Int}
theorem zqg {s : List UInt8} (hi : C[p]? = some ⟨1, 0, s⟩) (hS : okS S) : match vs.find? fun v => decide (v.name = s) with
  | none => Ends C vs 1 (at_ p S va er) 0 13
  | some v => if okv v.n = true then Steps C vs 1 (at_ p S va er) (at_ (p + 1) (S ++ [v.n]) va er) else Ends C vs 1 (at_ p S va er) 0 3 := by
 have h := zjd (va := va) (er := er) (vs := vs) hi (by simp) (by simp [zkC]) hS;cases hf : vs.find? fun v => decide (v.name = s) with
 | none =>
  have h2 : zgd vs (at_ p S va er) ⟨1, 0, s⟩ = (at_ p S va er).fin 0 13 := by simp [zgd, hf]
  rw [h2] at h;have := Ends.one h (by simp [Mach.fin]);simpa [Mach.fin] using this
 | some v =>
  have h2 : zgd vs (at_ p S va er) ⟨1, 0, s⟩ = (at_ p S va er).push v.n := by simp [zgd, hf]
  rw [h2] at h;simp only;split
  ·rename_i ha;have z := Steps.one h (by simp [Mach.push, ha]);have e : (at_ p S va er).push v.n = at_ (p + 1) (S ++ [v.n]) va er := by simp [Mach.push, ha]
   rw [e] at z;exact z
  ·rename_i ha;have := Ends.one h (by simp [Mach.push, ha, Mach.fin]);simpa [Mach.push, ha, Mach.fin] using this
theorem zqh {a : Nat} (hi : C[p]? = some ⟨12, a, []⟩) (hS : okS S) : Steps C vs 1 (at_ p S va er) (at_ a S va er) := by
 have h := zjd (va := va) (er := er) (vs := vs) hi (by simp) (by simp [zkC]) hS;have h2 : zgd vs (at_ p S va er) ⟨12, a, []⟩ = at_ a S va er := by simp [zgd]
 rw [h2] at h;exact Steps.one h rfl
theorem zuU {x : Int} : (at_ p (S ++ [x]) va er).top 0 = x := by simp [Mach.top]
theorem ztK {x : Int} : (at_ p (S ++ [x]) va er).drop 1 = at_ p S va er := by simp [Mach.drop]
theorem zoq {a : Nat} {x : Int} (hi : C[p]? = some ⟨13, a, []⟩) (hS : okS S) (hx : inC x) : Steps C vs 1 (at_ p (S ++ [x]) va er) (at_ (if x = 0 then a else p + 1) S va er) := by
 have h := zjd (va := va) (er := er) (vs := vs) hi (by simp) (by simp [zkC]; omega) (hS.snoc (zkA hx));have h2 : zgd vs (at_ p (S ++ [x]) va er) ⟨13, a, []⟩ = at_ (if x = 0 then a else p + 1) S va er := by
  simp only [zgd, zuU, ztK];simp;split <;> simp
 rw [h2] at h;exact Steps.one h rfl
theorem zsb {x : Int} (hi : C[p]? = some ⟨11, 0, []⟩) (hS : okS S) (hx : inC x) : Steps C vs 1 (at_ p (S ++ [x]) va er) (at_ (p + 1) (S ++ [zdu (decide (x = 0))]) va er) := by
 have h := zjd (va := va) (er := er) (vs := vs) hi (by simp) (by simp [zkC]; omega) (hS.snoc (zkA hx));have h3 : okv (zdu (decide (x = 0))) = true := zkA (zj4 _);have h2 : zgd vs (at_ p (S ++ [x]) va er) ⟨11, 0, []⟩ = at_ (p + 1) (S ++ [zdu (decide (x = 0))]) va er := by
  have h4 : Pm.truth (decide (x = 0)) = zdu (decide (x = 0)) := by unfold Pm.truth zdu; rfl
  simp only [zgd, zuU, ztK, h4];simp [Mach.push, h3]
 rw [h2] at h;exact Steps.one h rfl
end
def Res (C : Code) (vs : List Vm.Var) (p p' : Nat) (S : List Int) (r : Except Int Int) : Prop := ∀ va er, match r with
 | .ok v => inC v /\ ∃ q, q <= p' - p /\ Steps C vs q (at_ p S va er) (at_ p' (S ++ [v]) va er)
 | .error e => ∃ q, q <= p' - p /\ Ends C vs q (at_ p S va er) 0 e
def Does (vs : List Vm.Var) (F : Code -> Code) (r : Except Int Int) : Prop := ∀ (c C : Code) (S : List Int), (F c).length <= 2000 -> (∀ i, c.length <= i -> i < (F c).length -> C[i]? = (F c)[i]?) -> okS S -> Res C vs c.length (F c).length S r
theorem zeN {c : Code} {x : Ins} (h : (zb8 c x).length <= 2000) : c.length <= 1999 /\ (zb8 c x).length = c.length + 1 /\ (zb8 c x)[c.length]? = some x /\ ∀ i, i < c.length -> (zb8 c x)[i]? = c[i]? := by
 have h1 := zfh c x;have h2 : c.length <= 1999 := by split at h1 <;> omega
 refine ⟨h2, by rw [h1, if_pos (by omega)], ?_, (zcy x c).2⟩;unfold zb8;rw [if_pos (by omega)];simp
abbrev zpH (r : Except Int Int) (f : Int -> Except Int Int) : Except Int Int := match r with | .error e => .error e | .ok a => f a
theorem Does.name {vs} (s : List UInt8) (hvs : ∀ v ∈ vs, inC v.n) : Does vs (fun c => zb8 c ⟨1, 0, s⟩) (match vs.find? fun v => decide (v.name = s) with | none => .error 13 | some v => .ok v.n) := fun c C S hl hC hS => by
 simp only at hl hC ⊢;intro va er;obtain ⟨h1, h2, h3, _⟩ := zeN hl;have hi : C[c.length]? = some ⟨1, 0, s⟩ := by rw [hC _ (Nat.le_refl _) (by omega)]; exact h3
 have := zqg (vs := vs) (va := va) (er := er) hi hS;cases hf : vs.find? fun v => decide (v.name = s) with
 | none =>
  rw [hf] at this;exact ⟨1, by omega, this⟩
 | some v =>
  rw [hf] at this;have hin := hvs v (List.mem_of_find?_eq_some hf);simp only at this;rw [if_pos (zkA hin)] at this;exact ⟨hin, 1, by omega, by rw [h2]; exact this⟩
theorem Does.err {vs F r e} (h : r = .error e) (g : Does vs F r) {c C S} (hl : (F c).length <= 2000) (hC : ∀ i, c.length <= i -> i < (F c).length -> C[i]? = (F c)[i]?) (hS : okS S) (va er : Int) : ∃ q, q <= (F c).length - c.length /\ Ends C vs q (at_ c.length S va er) 0 e := by
 subst h; exact g c C S hl hC hS va er
theorem Does.ok {vs F r v} (h : r = .ok v) (g : Does vs F r) {c C S} (hl : (F c).length <= 2000) (hC : ∀ i, c.length <= i -> i < (F c).length -> C[i]? = (F c)[i]?) (hS : okS S) (va er : Int) : inC v /\ ∃ q, q <= (F c).length - c.length /\ Steps C vs q (at_ c.length S va er) (at_ (F c).length (S ++ [v]) va er) := by
 subst h; exact g c C S hl hC hS va er
theorem Does.cast {vs F r r'} (h : Does vs F r) (e : r = r') : Does vs F r' := e ▸ h
theorem Does.not {vs F ra} (hF : Does vs F ra) (pF : Pre F) : Does vs (fun c => zb8 (F c) ⟨11, 0, []⟩) (zpH ra fun a => .ok (zdu (decide (a = 0)))) := fun c C S hl hC hS va er => by
 simp only at hl hC;obtain ⟨h1, h2, h3, h4⟩ := zeN hl;obtain ⟨p1, _⟩ := pF c;have hCF : ∀ i, c.length <= i -> i < (F c).length -> C[i]? = (F c)[i]? := fun i hi hi2 => by rw [hC i hi (by omega), h4 i hi2]
 have hi : C[(F c).length]? = some ⟨11, 0, []⟩ := by rw [hC _ p1 (by omega)]; exact h3
 cases ra with
 | error e =>
  obtain ⟨q, hq, hE⟩ := hF.err rfl (by omega) hCF hS va er;exact ⟨q, by simp only; omega, hE⟩
 | ok a =>
  obtain ⟨hin, q, hq, hE⟩ := hF.ok rfl (by omega) hCF hS va er;exact ⟨zj4 _, q + 1, by simp only; omega, by simp only; rw [h2]; exact hE.trans (zsb hi hS hin)⟩
theorem Does.truth {vs F ra} (hF : Does vs F ra) (pF : Pre F) : Does vs (fun c => zdl (F c)) (zpH ra fun a => .ok (zdu (decide (a ≠ 0)))) := by
 have := (hF.not pF).not (pF.comp (Pre.put _));cases ra with
 | error e => exact this
 | ok a =>
  have e : zdu (decide (zdu (decide (a = 0)) = 0)) = zdu (decide (a ≠ 0)) := by
   unfold zdu;by_cases h : a = 0 <;> simp [h]
  exact this.cast (congrArg Except.ok e)
theorem Does.choice {vs A B D ra rb rd} (hA : Does vs A ra) (hB : Does vs B rb) (hD : Does vs D rd) (pA : Pre A) (pB : Pre B) (pD : Pre D) :
  Does vs (zbL A B D) (zpH ra fun a => if a = 0 then rd else rb) := fun c C S hl hC hS va er => by
 unfold zbL at hl hC ⊢;obtain ⟨a1, _⟩ := pA c;obtain ⟨p1, p2⟩ := zcy ⟨13, 0, []⟩ (A c);have kA := @zeN (A c) ⟨13, 0, []⟩;generalize hc2 : zb8 (A c) ⟨13, 0, []⟩ = c2 at *;obtain ⟨b1, b2⟩ := pB c2;obtain ⟨q1, q2⟩ := zcy ⟨12, 0, []⟩ (B c2);have kB := @zeN (B c2) ⟨12, 0, []⟩;generalize hc4 : zb8 (B c2) ⟨12, 0, []⟩ = c4 at *;obtain ⟨d1, d2⟩ := pD (zdp c4 (c2.length - 1));rw [zbA] at d1 d2;have hD' := hD (zdp c4 (c2.length - 1)) C;rw [zbA] at hl hD' ⊢;generalize hc6 : D (zdp c4 (c2.length - 1)) = c6 at *;obtain ⟨x1, x2, x3, x4⟩ := kB (by omega);obtain ⟨y1, y2, y3, y4⟩ := kA (by omega);rw [zbA] at hC;have g5 : ∀ i, i < c4.length -> i ≠ c2.length - 1 -> i ≠ c4.length - 1 -> c.length <= i -> C[i]? = c4[i]? := fun i h1 h2 h3 h4 => by
  rw [hC i h4 (by omega), zcJ _ _ _ h3, d2 i h1, zcJ _ _ _ h2]
 have gA : ∀ i, c.length <= i -> i < (A c).length -> C[i]? = (A c)[i]? := fun i h1 h2 => by
  rw [g5 i (by omega) (by omega) (by omega) h1, x4 i (by omega), b2 i (by omega), y4 i h2]
 have gF : C[(A c).length]? = some ⟨13, (c4.length : Nat), []⟩ := by
  have e : (A c).length = c2.length - 1 := by omega
  rw [hC _ a1 (by omega), zcJ _ _ _ (by omega), d2 _ (by omega), e];exact zgY (x := ⟨13, 0, []⟩) (by rw [<- e, x4 _ (by omega), b2 _ (by omega), y3])
 have gB : ∀ i, c2.length <= i -> i < (B c2).length -> C[i]? = (B c2)[i]? := fun i h1 h2 => by
  rw [g5 i (by omega) (by omega) (by omega) (by omega), x4 i h2]
 have gJ : C[(B c2).length]? = some ⟨12, (c6.length : Nat), []⟩ := by
  have e : (B c2).length = c4.length - 1 := by omega
  rw [hC _ (by omega) (by omega), e];exact zgY (x := ⟨12, 0, []⟩) (by rw [<- e, d2 _ (by omega), zcJ _ _ _ (by omega), x3])
 have gD : ∀ i, c4.length <= i -> i < c6.length -> C[i]? = c6[i]? := fun i h1 h2 => by
  rw [hC i (by omega) h2, zcJ _ _ _ (by omega)]
 cases ra with
 | error e =>
  obtain ⟨q, hq, hE⟩ := hA.err rfl (by omega) gA hS va er;exact ⟨q, by omega, hE⟩
 | ok a =>
  obtain ⟨hin, q, hq, hE⟩ := hA.ok rfl (by omega) gA hS va er;have hf := hE.trans (zoq gF hS hin);by_cases ha : a = 0
  ·rw [if_pos ha] at hf;have hb : zpH (.ok a) (fun a => if a = 0 then rd else rb) = rd := if_pos ha;rw [hb];have := hD' S (by omega) gD hS va er;cases rd with
   | error e =>
    obtain ⟨q', hq', hE'⟩ := this;exact ⟨_, by omega, hf.ends hE'⟩
   | ok v =>
    obtain ⟨hin', q', hq', hE'⟩ := this;exact ⟨hin', _, by omega, hf.trans hE'⟩
  ·rw [if_neg ha] at hf;have hb : zpH (.ok a) (fun a => if a = 0 then rd else rb) = rb := if_neg ha;rw [hb];rw [<- y2] at hf;have := hB c2 C S (by omega) gB hS va er;cases rb with
   | error e =>
    obtain ⟨q', hq', hE'⟩ := this;exact ⟨_, by omega, hf.ends hE'⟩
   | ok v =>
    obtain ⟨hin', q', hq', hE'⟩ := this;exact ⟨hin', _, by omega, (hf.trans hE').trans (zqh gJ (hS.snoc (zkA hin')))⟩
end Go.Proofs.YtkdhmbhbbciedaaGreatDoor
namespace Go.Proofs.YtkdhmbhbbciedaaGreatDoor
open Go Go.VL Go.ChangeShapes Go.WideShapes Go.ChangeAt Go.RowKit
end Go.Proofs.YtkdhmbhbbciedaaGreatDoor
namespace Go.Proofs.YtkdhmbhbbciedaaGreatDoor
open Go Go.VL
def zoS : Nat -> List UInt8 -> Nat -> Except (Nat × Int) (List Tok)
 | 0, _, _ => .ok []
 | f + 1, s, p =>
  match (s.drop (p + zcY zcG (s.drop p))) with
  | [] => .ok [⟨0, [], 0, ((p + zcY zcG (s.drop p) : Nat) : Int)⟩]
  | c :: r => match zh9 (c :: r) with
   | .error e => .error (p + zcY zcG (s.drop p), e)
   | .ok t => match zoS f s (p + zcY zcG (s.drop p) + t.text.length) with
    | .error x => .error x
    | .ok l => .ok ({ t with pos := ((p + zcY zcG (s.drop p) : Nat) : Int) } :: l)
def zoQ (s : List UInt8) : Except (Nat × Int) (List Tok) := if 2000 < s.length then .error (0, 6) else zoS (s.length + 1) s 0
def ziL : Except (Nat × Int) (List Tok) -> D
 | .ok l => .tup [.u (.sl (l.map fun t => [.int .i64 t.kind, .str t.text, .int .i64 t.n, .int .i64 t.pos])), .u (.int .i64 0), .u (.int .i64 0)]
 | .error (p, e) => .tup [.u (.sl []), .u (.int .i64 p), .u (.int .i64 e)]
def znd (acc : List Tok) : Except (Nat × Int) (List Tok) -> Except (Nat × Int) (List Tok)
 | .ok l => .ok (acc ++ l)
 | .error x => .error x
theorem zou (x) : znd [] x = x := by cases x <;> simp [znd]
theorem zkc {p : UInt8 -> Bool} {c : UInt8} {r : List UInt8} (h : p c = true) : 0 < zcY p (c :: r) := by
 unfold zcY; rw [List.takeWhile_cons, if_pos h]; simp
theorem zgj {s : List UInt8} {t : Tok} (h : zh9 s = .ok t) : 0 < t.text.length /\ t.text.length <= s.length := by
 unfold zh9 at h;split at h
 ·cases h
 ·rename_i c r;by_cases c1 : zdq c = true
  ·rw [if_pos c1] at h;split at h
   ·cases h;have h1 := zkc (p := zdA) (c := c) (r := r) (by simp [zdA, c1]);have h2 := zd6 zdA (c :: r);simp only [List.length_take];omega
   ·cases h
  ·rw [if_neg c1] at h;by_cases c2 : za9 c = true
   ·rw [if_pos c2] at h;split at h
    ·cases h;have h1 := zkc (p := za9) (c := c) (r := r) c2;have h2 := zd6 za9 (c :: r);simp only [List.length_take];omega
    ·cases h
   ·rw [if_neg c2] at h;split at h
    ·rename_i x hx;cases h;have h1 := List.find?_some hx;have h2 := List.mem_of_find?_eq_some hx;refine ⟨?_, (List.isPrefixOf_iff_prefix.1 h1).length_le⟩;simp only [signsL, List.mem_cons, List.not_mem_nil, or_false] at h2;rcases h2 with h | h | h | h | h | h | h | h | h | h | h <;> subst h <;> simp
    ·cases h
def zj6 (l : List Tok) : List (List D) := l.map fun t => [.u (.int .i64 t.kind), .u (.str t.text), .u (.int .i64 t.n), .u (.int .i64 t.pos)]
theorem zdR (l : List Tok) : (zj6 l).length = l.length := by simp [zj6]
theorem zj5 (l : List Tok) : rowsD (l.map fun t => [U.int .i64 t.kind, .str t.text, .int .i64 t.n, .int .i64 t.pos]) = zj6 l := by simp [rowsD, zj6, Function.comp_def]
theorem zmj (l : List Tok) : zbQ (zj6 l) = some (l.map fun t => [U.int .i64 t.kind, .str t.text, .int .i64 t.n, .int .i64 t.pos]) := by rw [<- zj5]; simp
theorem zhl (l) : zaF (zj6 l) = True := by rw [<- zj5]; simp
theorem zgc (n : Nat) (l) : (∀ x ∈ zj6 l, ∀ y ∈ x, D.under n y = true) ↔ True := by
 refine ⟨fun _ => trivial, fun _ x hx y hy => ?_⟩;obtain ⟨b, _, rfl⟩ := List.mem_map.1 hx;simp at hy;rcases hy with rfl | rfl | rfl | rfl <;> simp [D.under]
end Go.Proofs.YtkdhmbhbbciedaaGreatDoor
namespace Go.Proofs.YtkdhmbhbbciedaaGreatDoor
open Go Go.VL
abbrev zol (l : List Tok) : U := .sl (l.map fun t => [.int .i64 t.kind, .str t.text, .int .i64 t.n, .int .i64 t.pos])
abbrev pOb (l : List Tok) (p : Nat) : Ob := .box [.u (zol l), .u (.int .i64 p)]
abbrev zrO (l : List Tok) (p : Nat) : U := .row [zol l, .int .i64 p] 0
structure TokOK (l : List Tok) : Prop where
 fin : ∀ (i : Nat) (t : Tok), l[i]? = some t -> t.kind ≠ 0 -> i + 1 < l.length
 len : l.length <= 1000000
def isB (l : List Tok) (p : Nat) (w : List UInt8) : Bool := match l[p]? with | some t => decide (t.kind ≠ 0) && decide (t.text = w) | none => false
theorem zcA {l : List Tok} {p : Nat} {w : List UInt8} (hl : TokOK l) (h : isB l p w = true) : p + 1 < l.length := by
 unfold isB at h;split at h
 ·rename_i t ht;simp only [Bool.and_eq_true, decide_eq_true_eq] at h;exact hl.fin p t ht h.1
 ·cases h
end Go.Proofs.YtkdhmbhbbciedaaGreatDoor
namespace Go.Proofs.YtkdhmbhbbciedaaGreatDoor
open Go Go.VL Go.Shelf Go.RowKit
theorem zp7 {k : Kr} {d e : D} {vs : Array Value} (h : RepL k [d, e] vs) : ∃ v u, vs = #[v, u] /\ Rep k d v /\ Rep k e u := by
 obtain ⟨h1, h2⟩ := h;have hs : vs.size = 2 := by simpa using h1
 refine ⟨vs.getD 0 undef, vs.getD 1 undef, ?_, h2 0 d rfl, h2 1 e rfl⟩;apply Array.ext_getElem?;intro i
 match i with
 | 0 => simp [show 0 < vs.size by omega]
 | 1 => simp [show 1 < vs.size by omega]
 | i + 2 => rw [Array.getElem?_eq_none (by omega), Array.getElem?_eq_none (by simp)]
theorem zqc {k : Kr} {own obs} {w : World} (h : Sat k own obs w) : Lib.TabIs Tryz.prog w "internal/strconv.uint64pow10" .u64 Lib.pow10Tab := by
 have he : globs.head! = (globs.head!.1, Lib.pow10Tab.map fun z => Value.int .u64 z) := rfl;have hm : globs.head! ∈ globs := by unfold globs; exact List.mem_cons_self
 obtain ⟨h1, h2⟩ := k.glob.tab _ hm;rw [he] at h1 h2;simp only [List.length_map, Lib.pow10Tab_length] at h1 h2;obtain ⟨cs, t, fr, h3, h4⟩ := zqw (h.mem _ _ _ h2);have h5 : Tryz.prog.globalNamed "internal/strconv.uint64pow10" = some globs.head!.1 := by kernel_rfl
 unfold Lib.TabIs World.var?;rw [h5, Option.bind_some, h3];simp only [Option.some.injEq];apply Array.ext_getElem?;intro j;by_cases hj : j < 20
 ·have h6 := h.cell (h1 j hj);have h7 : cs[j]? = some ((Lib.pow10Tab.map fun z => Value.int .u64 z).getD j undef) := by simpa [World.cell?, h3] using h6
  rw [h7];simp [List.getD, Lib.pow10Tab_length, hj]
 ·rw [Array.getElem?_eq_none (by omega), Array.getElem?_eq_none (by simp [Lib.pow10Tab_length]; omega)]
theorem zqJ (n : Int) (h0 : -9223372036854775808 <= n) (h1 : n <= 9223372036854775807) : Fun Tryz.prog 84 [.u (.int .i64 n)] (· = .u (.str (Lib.itoa n))) :=
 Fun.zpX fun k own w vs hsat hrep => by
  obtain ⟨v, rfl, hv⟩ := zhr hrep;have hv := zbO hv;subst hv;refine ⟨_, .str _, (Tryz.strconv_Itoa n h0 h1 w (zqc hsat)).mono ?_⟩;rintro e w' ⟨h1, q, os, rfl⟩;refine ⟨h1, rfl, rfl, rfl, ?_, fun x hx => ?_⟩
  ·show w.heap.size <= (w.heap ++ os).size;simp
  ·show (w.heap ++ os)[x]? = w.heap[x]?;rw [Array.getElem?_append_left hx]
end Go.Proofs.YtkdhmbhbbciedaaGreatDoor
namespace Go.Proofs.YtkdhmbhbbciedaaGreatDoor
open Go Go.VL
theorem ze8 {nm sh} : ∀ {l : List Exp} {i : Nat} {e : Exp}, l[i]? = some e -> zfI nm sh l i = zfV nm sh e
 | [], _, _, h => by simp at h
 | a :: r, 0, e, h => by simp at h; subst h; rw [zfI]
 | a :: r, i + 1, e, h => by rw [zfI]; exact ze8 (by simpa using h)
end Go.Proofs.YtkdhmbhbbciedaaGreatDoor
namespace Go.Proofs.YtkdhmbhbbciedaaGreatDoor
open Go Go.VL
def zfr (lets : List Let) : Nat -> List UInt8 -> Option Nat
 | 0, _ => none
 | n + 1, s => match lets[n]? with
  | none => none
  | some l => if l.name = s then some n else zfr lets n s
theorem zgl {lets : List Let} {s : List UInt8} : ∀ {n i : Nat}, zfr lets n s = some i -> i < n /\ ∃ l, lets[i]? = some l /\ l.name = s
 | 0, i, h => by simp [zfr] at h
 | n + 1, i, h => by
  rw [zfr] at h;split at h
  ·cases h
  ·rename_i l hl;split at h
   ·rename_i hn;cases h;exact ⟨by omega, l, hl, hn⟩
   ·obtain ⟨h1, h2⟩ := zgl h;exact ⟨by omega, h2⟩
def zaA (l : List Bool) : U := .sl (l.map fun b => [.bool b])
def nmS (lets : List Let) (shs : List Bool) (n : Nat) (s : List UInt8) : Bool := match zfr lets n s with | some i => shs.getD i false | none => false
def ixO : Option Nat -> Int | some i => i | none => -1
end Go.Proofs.YtkdhmbhbbciedaaGreatDoor
namespace Go.Proofs.YtkdhmbhbbciedaaGreatDoor
open Go Go.VL
def zdj (lets : List Let) : Nat -> List Bool
 | 0 => []
 | n + 1 => match lets[n]? with
  | none => zdj lets n
  | some l => zdj lets n ++ [shareS (sF (mOf [] (lets.take n))) l.body]
theorem zff {lets : List Let} : ∀ {n : Nat}, n <= lets.length -> (zdj lets n).length = n
 | 0, _ => rfl
 | n + 1, h => by
  have hn : n < lets.length := by omega
  rw [zdj, List.getElem?_eq_getElem hn];simp [zff (lets := lets) (n := n) (by omega)]
theorem zoo {lets : List Let} {i : Nat} {l : Let} (hl : lets[i]? = some l) : ∀ {n : Nat}, i < n -> n <= lets.length -> (zdj lets n)[i]? = some (shareS (sF (mOf [] (lets.take i))) l.body)
 | 0, h, _ => by omega
 | n + 1, h, hn => by
  have hn2 : n < lets.length := by omega
  have hlen := zff (lets := lets) (n := n) (by omega);rw [zdj, List.getElem?_eq_getElem hn2];simp only;rcases Nat.lt_or_ge i n with h2 | h2
  ·rw [List.getElem?_append_left (by omega)];exact zoo hl h2 (by omega)
  ·obtain rfl : i = n := by omega
   rw [List.getElem?_append_right (by omega), hlen];rw [List.getElem?_eq_getElem hn2] at hl;cases hl;simp
theorem zmo {lets : List Let} {m : Nat} (hm : m <= lets.length) : ∀ {n : Nat}, n <= m -> ∀ s, nmS lets (zdj lets m) n s = sF (mOf [] (lets.take n)) s
 | 0, _, s => by simp [nmS, zfr, mOf, sF, asc]
 | n + 1, hn, s => by
  have hnl : n < lets.length := by omega
  have hl : lets[n]? = some lets[n] := List.getElem?_eq_getElem hnl;have ih := zmo hm (n := n) (by omega) s;rw [zqu hl];unfold nmS at ih ⊢;rw [zfr, hl];simp only;unfold sF;rw [zl1];by_cases hs : lets[n].name = s
  ·rw [if_pos hs, if_pos hs.symm];have := zoo hl (n := m) (by omega) hm;simp [List.getD_eq_getElem?_getD, this];rfl
  ·rw [if_neg hs, if_neg (fun e => hs e.symm)];exact ih
theorem zhf {lets : List Let} (hr : ∀ l ∈ lets, zba 12 l.body = true) (hl : lets.length <= 20) {n m : Nat} (hn : n <= m) (hm : m <= lets.length) {e : Exp} (he : zba 12 e = true) : zgC (lets.take n) e = shareS (nmS lets (zdj lets m) n) e := by
 have h1 : zbW (lets.take n) e = true := by
  simp only [zbW, Bool.and_eq_true, decide_eq_true_eq, Bool.not_eq_true', List.any_eq_false, Bool.not_eq_true];refine ⟨⟨by simp; omega, he⟩, fun l h => ?_⟩;rw [hr l (List.mem_of_mem_take h)];simp
 rw [zgC, h1, Bool.true_and, show nmS lets (zdj lets m) n = sF (mOf [] (lets.take n)) from funext fun s => zmo hm hn s]
theorem zkh : ∀ (d : Nat) (e : Exp), zba d e = true -> zba (d + 1) e = true
 | 0, e, h => by simp [zba] at h
 | d + 1, e, h => by
  have ih := fun x => zkh d x;rw [zba] at h ⊢;by_cases h0 : e.op = 0
  ·simpa [h0] using h
  ·by_cases h1 : e.op = 1
   ·simpa [h0, h1] using h
   ·simp only [h0, h1, if_false, Bool.and_eq_true, decide_eq_true_eq] at h ⊢;refine ⟨h.1, ?_⟩;have h2 := h.2;split at h2
    ·cases h2
    ·rename_i hz;rw [if_neg hz];simp only [Bool.and_eq_true, decide_eq_true_eq, Bool.not_eq_true', List.any_eq_false] at h2 ⊢;exact ⟨h2.1, fun x hx => by simpa using ih x (by simpa using h2.2 x hx)⟩
theorem zhh {d d' : Nat} (h : d <= d') {e : Exp} (he : zba d e = true) : zba d' e = true := by
 induction h with
 | refl => exact he
 | step _ ih => exact zkh _ _ ih
theorem znh {lets : List Let} (hr : ∀ l ∈ lets, zba 12 l.body = true) (hl : lets.length <= 20) {n m d : Nat} (hn : n <= m) (hm : m <= lets.length) {e : Exp} (he : zba (d + 1) e = true) (hd : d <= 11) (h0 : ¬ e.op = 0) (h1 : ¬ e.op = 1) :
  zbY (shareS (nmS lets (zdj lets m) n)) e.op e.args = zbY (zgC (lets.take n)) e.op e.args := by
 have ha := (zdT he).2.2.2 h0 h1;have : (e.args.take 2).any (shareS (nmS lets (zdj lets m) n)) = (e.args.take 2).any (zgC (lets.take n)) := by
  rw [Bool.eq_iff_iff, List.any_eq_true, List.any_eq_true];constructor
  ·rintro ⟨x, hx, h⟩;exact ⟨x, hx, by rw [zhf hr hl hn hm (zhh (by omega) (ha x (List.mem_of_mem_take hx)))]; exact h⟩
  ·rintro ⟨x, hx, h⟩;exact ⟨x, hx, by rw [<- zhf hr hl hn hm (zhh (by omega) (ha x (List.mem_of_mem_take hx)))]; exact h⟩
 unfold zbY;rw [this]
abbrev shF (lets : List Let) (n : Nat) : Exp -> Bool := zgC (lets.take n)
def zgs (lets : List Let) (e : Exp) : Code := zfV (nmC lets (shF lets) lets.length) (shF lets lets.length) e []
def zdC (lets : List Let) (e : Exp) : Code × Int := if zbW lets e = true then (if 2000 <= (zgs lets e).length then ([], 6) else (zgs lets e ++ [⟨14, 0, []⟩], 0)) else ([], 1)
end Go.Proofs.YtkdhmbhbbciedaaGreatDoor
namespace Go.Proofs.YtkdhmbhbbciedaaGreatDoor
open Go Go.VL
def zcZ (op : Int) : Int := if op = 0 \/ op = 1 \/ op = 12 then 0 else if op = 11 \/ op = 13 \/ op = 14 then 1 else 2
def zbZ (op : Int) : Int := if op = 12 \/ op = 13 \/ op = 14 then 0 else 1
def zdM (x : Ins) (i n : Nat) : Bool :=
 if x.op = 0 then decide (x.s = []) && decide (-1099511627776 <= x.a) && decide (x.a <= 1099511627776)
 else if x.op = 1 then decide (x.a = 0) && zgP x.s
 else if x.op = 12 \/ x.op = 13 then decide (x.s = []) && decide ((i : Int) < x.a) && decide (x.a < n)
 else decide (x.s = []) && decide (x.a = 0) && decide (0 <= x.op) && decide (x.op < 15)
def zeQ (x : Ins) (i : Nat) : List Nat := if x.op = 14 then [] else if x.op = 12 then [x.a.toNat] else if x.op = 13 then [i + 1, x.a.toNat] else [i + 1]
def zuc (hi : List Int) (k : Nat) (h : Int) : Option (List Int) := if 0 <= hi.getD k (-1) /\ hi.getD k (-1) ≠ h then none else some (hi.set k h)
def zh7 (h : Int) : List Nat -> List Int -> Option (List Int)
 | [], hi => some hi
 | k :: ks, hi => (zuc hi k h).bind (zh7 h ks)
def zsc (l : Code) (i : Nat) (hi : List Int) : Option (List Int) := match l[i]? with
 | none => none
 | some x => if hi.getD i (-1) < 0 then some hi
  else if hi.getD i (-1) < zcZ x.op \/ (x.op = 14 /\ hi.getD i (-1) ≠ 1) then none
  else zh7 (hi.getD i (-1) - zcZ x.op + zbZ x.op) (zeQ x i) hi
def rgo (l : Code) : Nat -> Option (List Int)
 | 0 => some (0 :: List.replicate l.length (-1))
 | i + 1 => (rgo l i).bind (zsc l i)
def ziT (l : Code) : Bool := (List.range l.length).all fun i => match l[i]? with | some x => zdM x i l.length | none => true
def zct (l : Code) : Bool := decide (0 < l.length) && decide (l.length <= 2000) && ziT l && match rgo l l.length with | some h => decide (h.getD l.length (-1) < 0) | none => false
theorem zfY {l : Code} (h : ziT l = true) {i : Nat} {x : Ins} (hx : l[i]? = some x) : zdM x i l.length = true := by
 have := List.all_eq_true.1 h i (List.mem_range.2 (List.getElem?_eq_some_iff.1 hx).1);rw [hx] at this;exact this
structure Hts (C : Code) (H : Nat -> Int) : Prop where
 zero : H 0 = 0
 ok : ∀ i x, C[i]? = some x -> 0 <= H i /\ zcZ x.op <= H i /\ (x.op = 14 -> H i = 1) /\ ∀ k ∈ zeQ x i, i < k /\ k < C.length /\ H k = H i - zcZ x.op + zbZ x.op
 reach : ∀ k, 0 < k -> k < C.length -> ∃ i x, i < k /\ C[i]? = some x /\ k ∈ zeQ x i
structure Seg (C : Code) (p q : Nat) (H : Nat -> Int) : Prop where
 lt : p < q
 ok : ∀ i, p <= i -> i < q -> ∃ x, C[i]? = some x /\ x.op ≠ 14 /\ zdM x i (q + 1) = true /\ 0 <= H i /\ zcZ x.op <= H i /\ ∀ k ∈ zeQ x i, i < k /\ k <= q /\ H k = H i - zcZ x.op + zbZ x.op
 reach : ∀ k, p < k -> k <= q -> ∃ i x, p <= i /\ i < k /\ C[i]? = some x /\ k ∈ zeQ x i
theorem zlP {x : Ins} {i n m : Nat} (h : zdM x i n = true) (hm : n <= m) : zdM x i m = true := by
 unfold zdM at h ⊢;by_cases c0 : x.op = 0
 ·rw [if_pos c0] at h ⊢; exact h
 rw [if_neg c0] at h ⊢;by_cases c1 : x.op = 1
 ·rw [if_pos c1] at h ⊢; exact h
 rw [if_neg c1] at h ⊢;by_cases c2 : x.op = 12 \/ x.op = 13
 ·rw [if_pos c2] at h ⊢;simp only [Bool.and_eq_true, decide_eq_true_eq] at h ⊢;exact ⟨h.1, by omega⟩
 ·rw [if_neg c2] at h ⊢; exact h
theorem Seg.one {C : Code} {p : Nat} {x : Ins} {h : Int} (hx : C[p]? = some x) (h14 : x.op ≠ 14) (h12 : x.op ≠ 12) (h13 : x.op ≠ 13) (hf : zdM x p (p + 2) = true) (h0 : 0 <= h) (hn : zcZ x.op <= h) :
  Seg C p (p + 1) fun i => if i = p then h else h - zcZ x.op + zbZ x.op := by
 have hne : zeQ x p = [p + 1] := by simp [zeQ, h14, h12, h13]
 refine ⟨by omega, fun i h1 h2 => ?_, fun k h1 h2 => ?_⟩
 ·obtain rfl : i = p := by omega
  refine ⟨x, hx, h14, hf, by simp [h0], by simp [hn], fun k hk => ?_⟩;rw [hne] at hk;simp at hk;subst hk;simp
 ·obtain rfl : k = p + 1 := by omega
  exact ⟨p, x, Nat.le_refl _, by omega, hx, by simp [hne]⟩
theorem Seg.glue {C : Code} {p m q : Nat} {H G : Nat -> Int} (h : Seg C p m H) (g : Seg C m q G) (e : H m = G m) : Seg C p q fun i => if i < m then H i else G i := by
 refine ⟨Nat.lt_trans h.lt g.lt, fun i h1 h2 => ?_, fun k h1 h2 => ?_⟩
 ·by_cases hm : i < m
  ·obtain ⟨x, a1, a2, a3, a4, a5, a6⟩ := h.ok i h1 hm;have := g.lt;refine ⟨x, a1, a2, zlP a3 (by omega), by simp [hm, a4], by simp [hm, a5], fun k hk => ?_⟩;obtain ⟨k1, k2, k3⟩ := a6 k hk;refine ⟨k1, by omega, ?_⟩;simp only [hm, if_true];by_cases hkm : k < m
   ·rw [if_pos hkm]; exact k3
   ·obtain rfl : k = m := by omega
    rw [if_neg hkm, <- e]; exact k3
  ·obtain ⟨x, a1, a2, a3, a4, a5, a6⟩ := g.ok i (by omega) h2;refine ⟨x, a1, a2, a3, by simp [hm, a4], by simp [hm, a5], fun k hk => ?_⟩;obtain ⟨k1, k2, k3⟩ := a6 k hk;refine ⟨k1, k2, ?_⟩;simp only [hm, if_false];rw [if_neg (by omega)]; exact k3
 ·by_cases hm : k <= m
  ·exact h.reach k h1 hm
  ·obtain ⟨i, x, a1, a2, a3, a4⟩ := g.reach k (by omega) h2;exact ⟨i, x, by have := h.lt; omega, a2, a3, a4⟩
def Hgt (F : Code -> Code) : Prop := ∀ (c C : Code) (h : Int), (F c).length <= 2000 -> (∀ i, c.length <= i -> i < (F c).length -> C[i]? = (F c)[i]?) -> 0 <= h -> ∃ H, Seg C c.length (F c).length H /\ H c.length = h /\ H (F c).length = h + 1
theorem Hgt.put {x : Ins} (h14 : x.op ≠ 14) (h12 : x.op ≠ 12) (h13 : x.op ≠ 13) (hf : ∀ i, zdM x i (i + 2) = true) (hn : zcZ x.op = 0) (hl : zbZ x.op = 1) : Hgt fun c => zb8 c x := fun c C h hl' hC h0 => by
 simp only at hl' hC ⊢;obtain ⟨h1, h2, h3, _⟩ := zeN hl';have hi : C[c.length]? = some x := by rw [hC _ (Nat.le_refl _) (by omega)]; exact h3
 rw [h2];exact ⟨_, Seg.one (h := h) hi h14 h12 h13 (hf _) h0 (by omega), by simp, by simp [hn, hl]⟩
theorem Hgt.then {F : Code -> Code} {x : Ins} (hF : Hgt F) (pF : Pre F) (h14 : x.op ≠ 14) (h12 : x.op ≠ 12) (h13 : x.op ≠ 13) (hf : ∀ i, zdM x i (i + 2) = true) (hn : zcZ x.op = 1) (hl : zbZ x.op = 1) : Hgt fun c => zb8 (F c) x := fun c C h hl' hC h0 => by
 simp only at hl' hC ⊢;obtain ⟨h1, h2, h3, h4⟩ := zeN hl';obtain ⟨p1, _⟩ := pF c;obtain ⟨H, g1, g2, g3⟩ := hF c C h (by omega) (fun i hi hi2 => by rw [hC i hi (by omega), h4 i hi2]) h0;have hi : C[(F c).length]? = some x := by rw [hC _ p1 (by omega)]; exact h3
 rw [h2];refine ⟨_, g1.glue (Seg.one (h := h + 1) hi h14 h12 h13 (hf _) (by omega) (by omega)) (by simp [g3]), ?_, ?_⟩
 ·simp only [g1.lt, if_true]; exact g2
 ·rw [if_neg (by omega), if_neg (by omega), hn, hl]; omega
theorem Hgt.two {F G : Code -> Code} {x : Ins} (hF : Hgt F) (hG : Hgt G) (pF : Pre F) (pG : Pre G) (h14 : x.op ≠ 14) (h12 : x.op ≠ 12) (h13 : x.op ≠ 13) (hf : ∀ i, zdM x i (i + 2) = true) (hn : zcZ x.op = 2) (hl : zbZ x.op = 1) :
  Hgt fun c => zb8 (G (F c)) x := fun c C h hl' hC h0 => by
 simp only at hl' hC ⊢;obtain ⟨h1, h2, h3, h4⟩ := zeN hl';obtain ⟨p1, _⟩ := pF c;obtain ⟨q1, q2⟩ := pG (F c);obtain ⟨H, g1, g2, g3⟩ := hF c C h (by omega) (fun i hi hi2 => by rw [hC i hi (by omega), h4 i (by omega), q2 i hi2]) h0;obtain ⟨K, k1, k2, k3⟩ := hG (F c) C (h + 1) (by omega) (fun i hi hi2 => by rw [hC i (by omega) (by omega), h4 i hi2]) (by omega);have hi : C[(G (F c)).length]? = some x := by rw [hC _ (by omega) (by omega)]; exact h3
 rw [h2];have gk := g1.glue k1 (by omega);refine ⟨_, gk.glue (Seg.one (h := h + 1 + 1) hi h14 h12 h13 (hf _) (by omega) (by omega)) ?_, ?_, ?_⟩
 ·have := k1.lt;simp only [if_true];rw [if_neg (by omega)]; exact k3
 ·have := g1.lt; have := k1.lt;rw [if_pos (by omega), if_pos (by omega)]; exact g2
 ·rw [if_neg (by omega), if_neg (by omega), hn, hl]; omega
theorem Hgt.choice {A B D : Code -> Code} (hA : Hgt A) (hB : Hgt B) (hD : Hgt D) (pA : Pre A) (pB : Pre B) (pD : Pre D) : Hgt (zbL A B D) := fun c C h hl hC h0 => by
 unfold zbL at hl hC ⊢;obtain ⟨a1, _⟩ := pA c;obtain ⟨p1, p2⟩ := zcy ⟨13, 0, []⟩ (A c);have kA := @zeN (A c) ⟨13, 0, []⟩;generalize hc2 : zb8 (A c) ⟨13, 0, []⟩ = c2 at *;obtain ⟨b1, b2⟩ := pB c2;obtain ⟨q1, q2⟩ := zcy ⟨12, 0, []⟩ (B c2);have kB := @zeN (B c2) ⟨12, 0, []⟩;generalize hc4 : zb8 (B c2) ⟨12, 0, []⟩ = c4 at *;obtain ⟨d1, d2⟩ := pD (zdp c4 (c2.length - 1));rw [zbA] at d1 d2;have hD' := hD (zdp c4 (c2.length - 1)) C;rw [zbA] at hl hD' ⊢;generalize hc6 : D (zdp c4 (c2.length - 1)) = c6 at *;obtain ⟨x1, x2, x3, x4⟩ := kB (by omega);obtain ⟨y1, y2, y3, y4⟩ := kA (by omega);rw [zbA] at hC;have g5 : ∀ i, i < c4.length -> i ≠ c2.length - 1 -> i ≠ c4.length - 1 -> c.length <= i -> C[i]? = c4[i]? := fun i h1 h2 h3 h4 => by
  rw [hC i h4 (by omega), zcJ _ _ _ h3, d2 i h1, zcJ _ _ _ h2]
 have gA : ∀ i, c.length <= i -> i < (A c).length -> C[i]? = (A c)[i]? := fun i h1 h2 => by
  rw [g5 i (by omega) (by omega) (by omega) h1, x4 i (by omega), b2 i (by omega), y4 i h2]
 have gF : C[(A c).length]? = some ⟨13, (c4.length : Nat), []⟩ := by
  have e : (A c).length = c2.length - 1 := by omega
  rw [hC _ a1 (by omega), zcJ _ _ _ (by omega), d2 _ (by omega), e];exact zgY (x := ⟨13, 0, []⟩) (by rw [<- e, x4 _ (by omega), b2 _ (by omega), y3])
 have gB : ∀ i, c2.length <= i -> i < (B c2).length -> C[i]? = (B c2)[i]? := fun i h1 h2 => by
  rw [g5 i (by omega) (by omega) (by omega) (by omega), x4 i h2]
 have gJ : C[(B c2).length]? = some ⟨12, (c6.length : Nat), []⟩ := by
  have e : (B c2).length = c4.length - 1 := by omega
  rw [hC _ (by omega) (by omega), e];exact zgY (x := ⟨12, 0, []⟩) (by rw [<- e, d2 _ (by omega), zcJ _ _ _ (by omega), x3])
 have gD : ∀ i, c4.length <= i -> i < c6.length -> C[i]? = c6[i]? := fun i h1 h2 => by
  rw [hC i (by omega) h2, zcJ _ _ _ (by omega)]
 obtain ⟨HA, s1, s2, s3⟩ := hA c C h (by omega) gA h0;obtain ⟨HB, t1, t2, t3⟩ := hB c2 C h (by omega) gB h0;obtain ⟨HD, u1, u2, u3⟩ := hD' h (by omega) gD h0;have l1 := s1.lt; have l2 := t1.lt; have l3 := u1.lt;generalize (A c).length = la at *;generalize (B c2).length = lb at *;have n13 : zeQ ⟨13, (c4.length : Nat), []⟩ la = [la + 1, c4.length] := by simp [zeQ]
 have n12 : zeQ ⟨12, (c6.length : Nat), []⟩ lb = [c6.length] := by simp [zeQ]
 refine ⟨fun i => if i <= la then HA i else if i <= lb then HB i else HD i, ⟨by omega, fun i h1 h2 => ?_, fun k h1 h2 => ?_⟩, by simp only [a1, if_true]; exact s2, by
  simp only;rw [if_neg (by omega), if_neg (by omega)]; exact u3⟩
 ·by_cases i1 : i < la
  ·obtain ⟨x, w1, w2, w3, w4, w5, w6⟩ := s1.ok i h1 i1;refine ⟨x, w1, w2, zlP w3 (by omega), by rw [if_pos (by omega)]; exact w4, by rw [if_pos (by omega)]; exact w5, fun k hk => ?_⟩;obtain ⟨k1, k2, k3⟩ := w6 k hk;exact ⟨k1, by omega, by rw [if_pos k2, if_pos (by omega)]; exact k3⟩
  by_cases i2 : i = la
  ·subst i2;refine ⟨_, gF, by simp, by simp [zdM]; omega, by simp [s3]; omega, by simp [s3, zcZ]; omega, fun k hk => ?_⟩;rw [n13] at hk;simp only [List.mem_cons, List.not_mem_nil, or_false] at hk;simp only [Nat.le_refl, if_true, s3];rcases hk with rfl | rfl
   ·refine ⟨by omega, by omega, ?_⟩;rw [if_neg (by omega), if_pos (by omega), <- y2, t2]; simp [zcZ, zbZ]
   ·refine ⟨by omega, by omega, ?_⟩;rw [if_neg (by omega), if_neg (by omega), u2]; simp [zcZ, zbZ]
  by_cases i3 : i < lb
  ·obtain ⟨x, w1, w2, w3, w4, w5, w6⟩ := t1.ok i (by omega) i3;refine ⟨x, w1, w2, zlP w3 (by omega), by rw [if_neg (by omega), if_pos (by omega)]; exact w4, by rw [if_neg (by omega), if_pos (by omega)]; exact w5, fun k hk => ?_⟩;obtain ⟨k1, k2, k3⟩ := w6 k hk;exact ⟨k1, by omega, by rw [if_neg (by omega), if_pos k2, if_neg (by omega), if_pos (by omega)]; exact k3⟩
  by_cases i4 : i = lb
  ·subst i4;refine ⟨_, gJ, by simp, by simp [zdM]; omega, by rw [if_neg (by omega), if_pos (Nat.le_refl _), t3]; omega, by rw [if_neg (by omega), if_pos (Nat.le_refl _), t3]; simp [zcZ]; omega, fun k hk => ?_⟩;rw [n12] at hk;simp only [List.mem_cons, List.not_mem_nil, or_false] at hk;subst hk;refine ⟨by omega, by omega, ?_⟩;rw [if_neg (by omega), if_neg (by omega), if_neg (by omega), if_pos (Nat.le_refl _), t3, u3]; simp [zcZ, zbZ]
  ·obtain ⟨x, w1, w2, w3, w4, w5, w6⟩ := u1.ok i (by omega) h2;refine ⟨x, w1, w2, w3, by rw [if_neg (by omega), if_neg (by omega)]; exact w4, by rw [if_neg (by omega), if_neg (by omega)]; exact w5, fun k hk => ?_⟩;obtain ⟨k1, k2, k3⟩ := w6 k hk;exact ⟨k1, k2, by rw [if_neg (by omega), if_neg (by omega), if_neg (by omega), if_neg (by omega)]; exact k3⟩
 ·by_cases k1 : k <= la
  ·exact s1.reach k h1 k1
  by_cases k2 : k = la + 1
  ·exact ⟨la, _, a1, by omega, gF, by rw [n13]; simp [k2]⟩
  by_cases k3 : k <= lb
  ·obtain ⟨i, x, r1, r2, r3, r4⟩ := t1.reach k (by omega) k3;exact ⟨i, x, by omega, r2, r3, r4⟩
  by_cases k4 : k = c4.length
  ·exact ⟨la, _, a1, by omega, gF, by rw [n13]; simp [k4]⟩
  ·obtain ⟨i, x, r1, r2, r3, r4⟩ := u1.reach k (by omega) h2;exact ⟨i, x, by omega, r2, r3, r4⟩
theorem Hgt.name {s : List UInt8} (h : zgP s = true) : Hgt fun c => zb8 c ⟨1, 0, s⟩ :=
 Hgt.put (by simp) (by simp) (by simp) (fun i => by simp [zdM, h]) (by simp [zcZ]) (by simp [zbZ])
theorem Hgt.not {F : Code -> Code} (hF : Hgt F) (pF : Pre F) : Hgt fun c => zb8 (F c) ⟨11, 0, []⟩ :=
 hF.then pF (by simp) (by simp) (by simp) (fun i => by simp [zdM]) (by simp [zcZ]) (by simp [zbZ])
theorem Hgt.truth {F : Code -> Code} (hF : Hgt F) (pF : Pre F) : Hgt fun c => zdl (F c) := (hF.not pF).not (pF.comp (Pre.put _))
end Go.Proofs.YtkdhmbhbbciedaaGreatDoor
namespace Go.Proofs.YtkdhmbhbbciedaaGreatDoor
open Go Go.VL
theorem zml {l : Code} {i : Nat} (h : rgo l i = none) : ∀ k, rgo l (i + k) = none
 | 0 => h
 | k + 1 => by rw [<- Nat.add_assoc, rgo, zml h k]; rfl
def hi1 (n i : Nat) : List Int := 0 :: (List.replicate i (-1) ++ List.replicate (n - i) 0)
theorem zqP (n : Nat) : hi1 n 0 = List.replicate (n + 1) 0 := by simp [hi1, List.replicate_succ]
theorem zlM {n i : Nat} (h : i < n) : (hi1 n i).set (i + 1) (-1) = hi1 n (i + 1) := by
 unfold hi1;rw [List.set_cons_succ, List.set_append_right _ _ (by simp), List.length_replicate, Nat.sub_self];have : n - i = (n - (i + 1)) + 1 := by omega
 rw [this, List.replicate_succ, List.set_cons_zero]
 congr 1
 rw [List.replicate_succ', List.append_assoc];rfl
theorem zlN {n i : Nat} (h : i <= n) : (hi1 n i).length = n + 1 := by simp [hi1]; omega
theorem zss (n : Nat) : hi1 n n = 0 :: List.replicate n (-1) := by simp [hi1]
structure HiAt (l : Code) where
 i : Nat
 hi : List Int
 hle : i <= l.length
 go : rgo l i = some hi
 len : hi.length = l.length + 1
 lo : ∀ z ∈ hi, -1 <= z /\ z <= i
theorem znH {l : Code} (h : ∀ j x, l[j]? = some x -> zdM x j l.length = true) : ziT l = true := by
 refine List.all_eq_true.2 fun i _ => ?_;cases hx : l[i]? with
 | none => rfl
 | some x => exact h i x hx
theorem zsj {l : Code} (hf : ziT l = true) {i : Nat} {x : Ins} (hx : l[i]? = some x) : ∀ k ∈ zeQ x i, i < k /\ k <= l.length := by
 have h := zfY hf hx;have hi := (List.getElem?_eq_some_iff.1 hx).1;intro k hk;unfold zeQ at hk;unfold zdM at h;by_cases h14 : x.op = 14
 ·simp [h14] at hk
 by_cases h12 : x.op = 12
 ·simp [h12] at hk h;omega
 by_cases h13 : x.op = 13
 ·simp [h13] at hk h;omega
 ·simp [h12, h13, h14] at hk;omega
structure NxAt (ks : List Nat) (h : Int) (hi : List Int) (i : Nat) where
 j : Nat
 hj : List Int
 hle : j <= ks.length
 go : zh7 h ks hi = zh7 h (ks.drop j) hj
 len : hj.length = hi.length
 at_i : hj[i]? = hi[i]?
 lo : ∀ z ∈ hj, -1 <= z /\ z <= i + 1
theorem zqr (op : Int) : 0 <= zcZ op /\ zcZ op <= 2 := by
 unfold zcZ;split
 ·omega
 ·split <;> omega
theorem znv (op : Int) : 0 <= zbZ op /\ zbZ op <= 1 := by unfold zbZ; split <;> omega
theorem zqj {l : Code} {i : Nat} {hi : List Int} {y : Ins} {v : Int} (go : rgo l i = some hi) (hy : l[i]? = some y) (hv : hi[i]? = some v) : rgo l (i + 1) = if v < 0 then some hi
  else if v < zcZ y.op \/ (y.op = 14 /\ v ≠ 1) then none else zh7 (v - zcZ y.op + zbZ y.op) (zeQ y i) hi := by
 have : hi.getD i (-1) = v := by simp [List.getD, hv]
 rw [rgo, go];show zsc l i hi = _;unfold zsc;rw [hy, this]
theorem zix {l : Code} {i : Nat} (h : rgo l (i + 1) = none) (hi : i < l.length) : zct l = false := by
 have := zml h (l.length - (i + 1));rw [show i + 1 + (l.length - (i + 1)) = l.length by omega] at this;unfold zct;rw [this];simp
theorem zm9 {h : Int} {ks : List Nat} {hi : List Int} {j k : Nat} (hk : ks[j]? = some k) : zh7 h (ks.drop j) hi = (zuc hi k h).bind (zh7 h (ks.drop (j + 1))) := by
 obtain ⟨h1, h2⟩ := List.getElem?_eq_some_iff.1 hk;rw [List.drop_eq_getElem_cons h1, h2, zh7]
end Go.Proofs.YtkdhmbhbbciedaaGreatDoor
namespace Go.Proofs.YtkdhmbhbbciedaaGreatDoor
open Go Go.VL
def wordsL : List (List UInt8) := [[110, 117, 109], [110, 97, 109, 101], [97, 100, 100], [115, 117, 98], [109, 117, 108], [100, 105, 118], [115, 99, 97, 108, 101], [109, 105, 110], [109, 97, 120], [108, 101, 115, 115], [101, 113], [110, 111, 116], [106, 117, 109, 112], [102, 97, 108, 115, 101], [101, 110, 100]]
def zdQ (op : Int) : List UInt8 := wordsL.getD op.toNat []
def ze5 (x : Ins) : List UInt8 := zdQ x.op ++ (if x.op = 0 \/ x.op = 12 \/ x.op = 13 then 32 :: Lib.itoa x.a else if x.op = 1 then 32 :: x.s else []) ++ [10]
def zdd (l : Code) : List UInt8 := (l.map ze5).flatten
end Go.Proofs.YtkdhmbhbbciedaaGreatDoor
namespace Go.Proofs.YtkdhmbhbbciedaaGreatDoor
open Go Go.VL
abbrev zdk (c : Code) : List (List D) := c.map fun i => [.u (.int .i64 i.op), .u (.int .i64 i.a), .u (.str i.s)]
abbrev cOb (lets : List Let) (shs : List Bool) (q : Nat) (c : Code) : Ob := .box [.u (zaz lets), .u (zaA shs), .vec q c.length]
abbrev kOb (c : Code) : Ob := .vec 44 3 (zdk c)
theorem zhE (c : Code) : zh3 3 (zdk c) := by intro r hr; obtain ⟨i, _, rfl⟩ := List.mem_map.1 hr; rfl
theorem zbk (c : Code) : zaF (zdk c) := by
 induction c with
 | nil => simp [zdk, zaF]
 | cons a l ih => simp only [zdk] at ih; simp [zdk, zaF, zbe, ih]
theorem zqM (c : Code) (j : Nat) (x : Ins) : (zdk c).set j [.u (.int .i64 x.op), .u (.int .i64 x.a), .u (.str x.s)] = zdk (c.set j x) := by simp [zdk]
theorem zsp {c : Code} {j : Nat} {x : Ins} (h : c[j]? = some x) : (zdk c)[j]? = some [.u (.int .i64 x.op), .u (.int .i64 x.a), .u (.str x.s)] := by simp [zdk, h]
theorem zeG (c : Code) : (zdk c).length = c.length := by simp [zdk]
end Go.Proofs.YtkdhmbhbbciedaaGreatDoor
namespace Go.Proofs.YtkdhmbhbbciedaaGreatDoor
open Go Go.VL
def Cap (F : Code -> Code) : Prop := ∀ c : Code, c.length <= 2001 -> (F c).length <= 2001
theorem Cap.put (x : Ins) : Cap fun c => zb8 c x := fun c h => by
 show (zb8 c x).length <= 2001;rw [zfh]; split <;> omega
theorem Cap.comp {F G : Code -> Code} (hF : Cap F) (hG : Cap G) : Cap fun c => G (F c) := fun c h => hG _ (hF c h)
theorem Cap.truth : Cap zdl := (Cap.put _).comp (Cap.put _)
theorem Cap.choice {A B D : Code -> Code} (hA : Cap A) (hB : Cap B) (hD : Cap D) : Cap (zbL A B D) := fun c h => by
 unfold zbL;rw [zbA];refine hD _ ?_;rw [zbA];exact Cap.put _ _ (hB _ (Cap.put _ _ (hA c h)))
mutual
theorem zfU {nm : List UInt8 -> Code -> Code} {sh : Exp -> Bool} (hn : ∀ s, Cap (nm s)) : ∀ e : Exp, Cap (zfV nm sh e)
 | .mk op n u s args => fun c hc2 => by
  have h := fun i => zmE (sh := sh) hn args i;have hA := zjC (sh := sh) hn args;rw [zfV];simp only;split
  ·exact hc2
  split
  ·exact Cap.put _ c hc2
  split
  ·exact hn s c hc2
  split
  ·exact Cap.choice (h 0) ((h 1).comp Cap.truth) (Cap.put _) c hc2
  split
  ·exact Cap.choice (h 0) (Cap.put _) ((h 1).comp Cap.truth) c hc2
  split
  ·exact Cap.choice (h 0) (h 1) (h 2) c hc2
  ·exact (hA.comp (Cap.put _)) c hc2
theorem zmE {nm : List UInt8 -> Code -> Code} {sh : Exp -> Bool} (hn : ∀ s, Cap (nm s)) : ∀ (l : List Exp) (i : Nat), Cap (zfI nm sh l i)
 | [], i => by rw [zfI]; exact fun _ h => h
 | e :: l, 0 => by rw [zfI]; exact zfU hn e
 | e :: l, i + 1 => by rw [zfI]; exact zmE hn l i
theorem zjC {nm : List UInt8 -> Code -> Code} {sh : Exp -> Bool} (hn : ∀ s, Cap (nm s)) : ∀ (l : List Exp), Cap (zga nm sh l)
 | [] => by rw [zga]; exact fun _ h => h
 | e :: l => by rw [zga]; exact (zfU hn e).comp (zjC hn l)
end
theorem zhu {lets sh} : ∀ (n : Nat) (s : List UInt8), Cap (nmC lets sh n s)
 | 0, s => by rw [nmC]; exact Cap.put _
 | n + 1, s => by
  rw [nmC];split
  ·exact Cap.put _
  ·split
   ·exact zfU (zhu n) _
   ·exact zhu n s
def ExpX (lets : List Let) (shs : List Bool) (m n : Nat) (e : Exp) (F : Code -> Code) : Prop := ∀ (c : Code) (q nx : Nat), m < nx -> q < nx -> m ≠ q -> c.length <= 2001 -> RetX Tryz.prog 36 [.ptr m 0, .u (.int .i64 n), zcF e] [(m, cOb lets shs q c), (q, kOb c)] nx
  fun r o n' => r = .val (.tup []) /\ o = [(m, cOb lets shs nx (F c)), (nx, kOb (F c))] /\ n' = nx + 1
def zuh (lets : List Let) (shs : List Bool) (m n : Nat) (e : Exp) (F : Code -> Code) : Prop := ∀ (c : Code) (q nx : Nat), m < nx -> q < nx -> m ≠ q -> c.length <= 2001 -> RetX Tryz.prog 67 [.ptr m 0, .u (.int .i64 n), zcF e] [(m, cOb lets shs q c), (q, kOb c)] nx
  fun r o n' => r = .val (.tup []) /\ o = [(m, cOb lets shs nx (F c)), (nx, kOb (F c))] /\ n' = nx + 1
end Go.Proofs.YtkdhmbhbbciedaaGreatDoor
namespace Go.Proofs.YtkdhmbhbbciedaaGreatDoor
open Go Go.VL
theorem zez (c : Code) : zbQ (zdk c) = some (c.map fun i => [.int .i64 i.op, .int .i64 i.a, .str i.s]) := by
 have : zdk c = (c.map fun i => [U.int .i64 i.op, .int .i64 i.a, .str i.s]).map (·.map D.u) := by simp [zdk]
 rw [this, zf6]
theorem zhD (c : Code) : (zdk c).take c.length = zdk c := by rw [<- zeG, List.take_length]
theorem zmp {lets : List Let} {sh : Nat -> Exp -> Bool} (s : List UInt8) : ∀ {n : Nat}, n <= lets.length -> nmC lets sh n s = match zfr lets n s with | none => fun c => zb8 c ⟨1, 0, s⟩ | some i => match lets[i]? with | some l => zfV (nmC lets sh i) (sh i) l.body | none => fun c => c
 | 0, _ => by rw [nmC]; rfl
 | n + 1, h => by
  have hl : lets[n]? = some lets[n] := List.getElem?_eq_getElem (by omega);rw [nmC, zfr, hl];simp only;by_cases hs : lets[n].name = s
  ·rw [if_pos hs, if_pos hs];simp only [hl]
  ·rw [if_neg hs, if_neg hs];exact zmp s (by omega)
end Go.Proofs.YtkdhmbhbbciedaaGreatDoor
namespace Go.Proofs.YtkdhmbhbbciedaaGreatDoor
open Go Go.VL
abbrev zqC (l : Let) : List U := [.str l.name, .int .i64 l.body.op, .int .i64 l.body.n, .int .i64 l.body.unit, .str l.body.s, .sl (l.body.args.map Exp.row)]
end Go.Proofs.YtkdhmbhbbciedaaGreatDoor
namespace Go.Proofs.YtkdhmbhbbciedaaGreatDoor
open Go Go.VL
end Go.Proofs.YtkdhmbhbbciedaaGreatDoor
namespace Go.Proofs.YtkdhmbhbbciedaaGreatDoor
open Go Go.VL
def mvI (n : Nat) (x : Ins) : Ins := if x.op = 12 \/ x.op = 13 then { x with a := x.a + n } else x
def mvC (n : Nat) (l : Code) : Code := l.map (mvI n)
theorem zsk (a b : Nat) (x : Ins) : mvI a (mvI b x) = mvI (a + b) x := by
 unfold mvI;by_cases h : x.op = 12 \/ x.op = 13
 ·simp only [h, if_true]
  congr 1
  omega
 ·simp only [h, if_false]
theorem zlC (a b : Nat) (l : Code) : mvC a (mvC b l) = mvC (a + b) l := by simp [mvC, zsk]
theorem zdK (a : Nat) (l : Code) : (mvC a l).length = l.length := by simp [mvC]
theorem zlD (a : Nat) (l m : Code) : mvC a (l ++ m) = mvC a l ++ mvC a m := by simp [mvC]
theorem zqt (l : Code) : mvC 0 l = l := by
 unfold mvC
 conv => rhs; rw [<- List.map_id l]
 refine List.map_congr_left fun x _ => ?_;unfold mvI;split
 ·simp
 ·rfl
theorem zoI {n : Nat} {x : Ins} (h : x.op ≠ 12) (h' : x.op ≠ 13) : mvC n [x] = [x] := by simp [mvC, mvI, h, h']
def Rel (F : Code -> Code) (L : Code) : Prop := ∀ c : Code, (c.length + L.length <= 2000 -> F c = c ++ mvC c.length L) /\ ((F c).length <= 2000 -> c.length + L.length <= 2000)
theorem Rel.id : Rel (fun c => c) [] := fun c => ⟨fun _ => by simp [mvC], fun h => by simpa using h⟩
theorem Rel.put {x : Ins} (h : x.op ≠ 12) (h' : x.op ≠ 13) : Rel (fun c => zb8 c x) [x] := fun c => ⟨fun hl => by
 simp only [List.length_cons, List.length_nil] at hl;simp only [zb8];rw [if_pos (by omega), zoI h h'], fun hl => by
 have := zeN hl;simp only [List.length_cons, List.length_nil]; omega⟩
theorem Rel.comp {F G : Code -> Code} {L M : Code} (hF : Rel F L) (hG : Rel G M) : Rel (fun c => G (F c)) (L ++ mvC L.length M) := fun c => by
 obtain ⟨f1, f2⟩ := hF c;obtain ⟨g1, g2⟩ := hG (F c);simp only [List.length_append, zdK];refine ⟨fun hl => ?_, fun hl => ?_⟩
 ·have e := f1 (by omega);have el : (F c).length = c.length + L.length := by rw [e]; simp [zdK]
  rw [g1 (by omega), el, e, zlD, zlC, List.append_assoc]
 ·have h1 := g2 hl;have h2 := f2 (by omega);have el : (F c).length = c.length + L.length := by rw [f1 h2]; simp [zdK]
  omega
theorem Rel.cast {F : Code -> Code} {L M : Code} (h : Rel F L) (e : L = M) : Rel F M := e ▸ h
def zej (a b d : Code) : Code := a ++ ⟨13, (a.length + b.length + 2 : Nat), []⟩ :: (mvC (a.length + 1) b ++ ⟨12, (a.length + b.length + d.length + 2 : Nat), []⟩ :: mvC (a.length + b.length + 2) d)
theorem zlV (a b d : Code) : (zej a b d).length = a.length + b.length + d.length + 2 := by simp [zej, zdK]; omega
theorem zkJ {x y : Code} {i : Ins} : zdp (x ++ i :: y) x.length = x ++ { i with a := ((x ++ i :: y : Code).length : Int) } :: y := by
 unfold zdp;rw [List.getElem?_append_right (Nat.le_refl _), Nat.sub_self];simp only [List.getElem?_cons_zero];rw [List.set_append_right _ _ (Nat.le_refl _), Nat.sub_self];rfl
theorem zmn {c : Code} {x : Ins} (h : c.length <= 2000) : zb8 c x = c ++ [x] := if_pos h
theorem Rel.choice {A B D : Code -> Code} {a b d : Code} (hA : Rel A a) (hB : Rel B b) (hD : Rel D d) : Rel (zbL A B D) (zej a b d) := fun c => by
 obtain ⟨a1, a2⟩ := hA c;rw [zlV];refine ⟨fun hl => ?_, fun hl => ?_⟩
 ·have ea := a1 (by omega);have la : (A c).length = c.length + a.length := by rw [ea]; simp [zdK]
  have e2 : zb8 (A c) ⟨13, 0, []⟩ = A c ++ [⟨13, 0, []⟩] := zmn (by omega);have l2 : (zb8 (A c) ⟨13, 0, []⟩).length = c.length + a.length + 1 := by rw [e2]; simp; omega
  have e3 := (hB (zb8 (A c) ⟨13, 0, []⟩)).1 (by omega);have l3 : (B (zb8 (A c) ⟨13, 0, []⟩)).length = c.length + a.length + 1 + b.length := by rw [e3]; simp [zdK]; omega
  have e4 : zb8 (B (zb8 (A c) ⟨13, 0, []⟩)) ⟨12, 0, []⟩ = B (zb8 (A c) ⟨13, 0, []⟩) ++ [⟨12, 0, []⟩] := zmn (by omega);have l4 : (zb8 (B (zb8 (A c) ⟨13, 0, []⟩)) ⟨12, 0, []⟩).length = c.length + a.length + b.length + 2 := by rw [e4]; simp; omega
  unfold zbL;rw [l2, l4];have e5 : zdp (zb8 (B (zb8 (A c) ⟨13, 0, []⟩)) ⟨12, 0, []⟩) (c.length + a.length + 1 - 1) = A c ++ ⟨13, (c.length + a.length + b.length + 2 : Nat), []⟩ :: (mvC (c.length + a.length + 1) b ++ [⟨12, 0, []⟩]) := by
   have : zb8 (B (zb8 (A c) ⟨13, 0, []⟩)) ⟨12, 0, []⟩ = A c ++ ⟨13, 0, []⟩ :: (mvC (c.length + a.length + 1) b ++ [⟨12, 0, []⟩]) := by
    rw [e4, e3, l2, e2]; simp
   rw [show c.length + a.length + 1 - 1 = (A c).length by omega];rw [this, zkJ]
   congr 3
   simp [zdK, la]; omega
  rw [e5];generalize hc5 : (A c ++ ⟨13, ((c.length + a.length + b.length + 2 : Nat) : Int), []⟩ :: (mvC (c.length + a.length + 1) b ++ [⟨12, 0, []⟩]) : Code) = c5;have l5 : c5.length = c.length + a.length + b.length + 2 := by rw [<- hc5]; simp [zdK, la]; omega
  have e6 := (hD c5).1 (by omega);rw [e6, l5];have e7 : c5 ++ mvC (c.length + a.length + b.length + 2) d = (A c ++ ⟨13, ((c.length + a.length + b.length + 2 : Nat) : Int), []⟩ :: mvC (c.length + a.length + 1) b) ++ ⟨12, 0, []⟩ :: mvC (c.length + a.length + b.length + 2) d := by
   rw [<- hc5]; simp
  have l7 : (A c ++ ⟨13, ((c.length + a.length + b.length + 2 : Nat) : Int), []⟩ :: mvC (c.length + a.length + 1) b : Code).length = c.length + a.length + b.length + 2 - 1 := by simp [zdK, la]; omega
  have e8 := zkJ (x := (A c ++ ⟨13, ((c.length + a.length + b.length + 2 : Nat) : Int), []⟩ :: mvC (c.length + a.length + 1) b : Code)) (i := ⟨12, 0, []⟩) (y := mvC (c.length + a.length + b.length + 2) d);rw [l7] at e8;have c1 : ∀ (n : Nat) (i : Ins) (l : Code), mvC n (i :: l) = mvI n i :: mvC n l := fun _ _ _ => rfl;have i13 : mvI c.length ⟨13, ((a.length + b.length + 2 : Nat) : Int), []⟩ = ⟨13, ((c.length + a.length + b.length + 2 : Nat) : Int), []⟩ := by simp [mvI]; omega
  have i12 : mvI c.length ⟨12, ((a.length + b.length + d.length + 2 : Nat) : Int), []⟩ = ⟨12, ((c.length + a.length + b.length + d.length + 2 : Nat) : Int), []⟩ := by simp [mvI]; omega
  have lt : (((A c ++ ⟨13, ((c.length + a.length + b.length + 2 : Nat) : Int), []⟩ :: mvC (c.length + a.length + 1) b : Code) ++ ⟨12, 0, []⟩ :: mvC (c.length + a.length + b.length + 2) d : Code).length : Int) = ((c.length + a.length + b.length + d.length + 2 : Nat) : Int) := by
   simp [zdK, la]; omega
  rw [lt] at e8;rw [e7, e8, ea];unfold zej;rw [zlD, c1, zlD, c1, zlC, zlC, i13, i12, show c.length + (a.length + 1) = c.length + a.length + 1 by omega, show c.length + (a.length + b.length + 2) = c.length + a.length + b.length + 2 by omega];simp
 ·unfold zbL at hl;rw [zbA] at hl;have h1 := (hD _).2 hl;rw [zbA] at h1;have p4 := @zeN (B (zb8 (A c) ⟨13, 0, []⟩)) ⟨12, 0, []⟩ (by omega);have h3 := (hB _).2 (by omega : (B (zb8 (A c) ⟨13, 0, []⟩)).length <= 2000);have l3 : (B (zb8 (A c) ⟨13, 0, []⟩)).length = (zb8 (A c) ⟨13, 0, []⟩).length + b.length := by rw [(hB _).1 h3]; simp [zdK]
  have p2 := @zeN (A c) ⟨13, 0, []⟩ (by omega);have h2 := a2 (by omega);have la : (A c).length = c.length + a.length := by rw [a1 h2]; simp [zdK]
  omega
def zin (l : Code) : Code := l ++ [⟨11, 0, []⟩, ⟨11, 0, []⟩]
theorem Rel.truth {F : Code -> Code} {L : Code} (h : Rel F L) : Rel (fun c => zdl (F c)) (zin L) :=
 ((h.comp (Rel.put (x := ⟨11, 0, []⟩) (by simp) (by simp))).comp (Rel.put (x := ⟨11, 0, []⟩) (by simp) (by simp))).cast (by simp [zin, mvC, mvI])
mutual
def genL (nm : List UInt8 -> Code) (sh : Exp -> Bool) : Exp -> Code
 | .mk op n _ s args =>
  if op = 0 then [⟨0, n, []⟩]
  else if op = 1 then nm s
  else if op = 10 then zej (zdB nm sh args 0) (zin (zdB nm sh args 1)) [⟨0, 0, []⟩]
  else if op = 11 then zej (zdB nm sh args 0) [⟨0, 1, []⟩] (zin (zdB nm sh args 1))
  else if op = 13 then zej (zdB nm sh args 0) (zdB nm sh args 1) (zdB nm sh args 2)
  else zgR nm sh args ++ [⟨zbY sh op args, 0, []⟩]
def zdB (nm : List UInt8 -> Code) (sh : Exp -> Bool) : List Exp -> Nat -> Code
 | [], _ => []
 | e :: _, 0 => genL nm sh e
 | _ :: r, i + 1 => zdB nm sh r i
def zgR (nm : List UInt8 -> Code) (sh : Exp -> Bool) : List Exp -> Code
 | [] => []
 | e :: r => genL nm sh e ++ mvC (genL nm sh e).length (zgR nm sh r)
end
theorem zng {sh : Exp -> Bool} {op : Int} {args : List Exp} : zbY sh op args ≠ 12 /\ zbY sh op args ≠ 13 := by
 unfold zbY
 repeat' split
 all_goals omega
mutual
theorem zjB {nm : List UInt8 -> Code -> Code} {nl : List UInt8 -> Code} {sh : Exp -> Bool} (h : ∀ s, Rel (nm s) (nl s)) : ∀ e : Exp, Rel (zfV nm sh e) (genL nl sh e)
 | .mk op n u s args => by
  have hN := zmC (sh := sh) h args;have hA := zmG (sh := sh) h args
  suffices hs : ∀ (F : Code -> Code), (∀ c : Code, c.length <= 2000 -> zfV nm sh (.mk op n u s args) c = F c) -> Rel F (genL nl sh (.mk op n u s args)) -> Rel (zfV nm sh (.mk op n u s args)) (genL nl sh (.mk op n u s args)) by
   rw [genL] at hs ⊢;by_cases h0 : op = 0
   ·rw [if_pos h0] at hs ⊢;exact hs _ (fun c hc => by simp only [zfV, if_neg (show ¬ 2000 < c.length by omega), if_pos h0]) (Rel.put (by simp) (by simp))
   rw [if_neg h0] at hs ⊢;by_cases h1 : op = 1
   ·rw [if_pos h1] at hs ⊢;exact hs _ (fun c hc => by simp only [zfV, if_neg (show ¬ 2000 < c.length by omega), if_neg h0, if_pos h1]) (h s)
   rw [if_neg h1] at hs ⊢;by_cases h2 : op = 10
   ·rw [if_pos h2] at hs ⊢;exact hs _ (fun c hc => by simp only [zfV, if_neg (show ¬ 2000 < c.length by omega), if_neg h0, if_neg h1, if_pos h2]) (Rel.choice (hN 0) (hN 1).truth (Rel.put (x := ⟨0, 0, []⟩) (by simp) (by simp)))
   rw [if_neg h2] at hs ⊢;by_cases h3 : op = 11
   ·rw [if_pos h3] at hs ⊢;exact hs _ (fun c hc => by simp only [zfV, if_neg (show ¬ 2000 < c.length by omega), if_neg h0, if_neg h1, if_neg h2, if_pos h3]) (Rel.choice (hN 0) (Rel.put (x := ⟨0, 1, []⟩) (by simp) (by simp)) (hN 1).truth)
   rw [if_neg h3] at hs ⊢;by_cases h4 : op = 13
   ·rw [if_pos h4] at hs ⊢;exact hs _ (fun c hc => by simp only [zfV, if_neg (show ¬ 2000 < c.length by omega), if_neg h0, if_neg h1, if_neg h2, if_neg h3, if_pos h4]) (Rel.choice (hN 0) (hN 1) (hN 2))
   rw [if_neg h4] at hs ⊢;refine hs (fun c => zb8 (zga nm sh args c) ⟨zbY sh op args, 0, []⟩) (fun c hc => by simp only [zfV, if_neg (show ¬ 2000 < c.length by omega), if_neg h0, if_neg h1, if_neg h2, if_neg h3, if_neg h4]) ?_;obtain ⟨o1, o2⟩ := zng (sh := sh) (op := op) (args := args);exact (hA.comp (Rel.put (x := ⟨zbY sh op args, 0, []⟩) o1 o2)).cast (by rw [zoI (by exact o1) (by exact o2)])
  intro F hF hR c;have hpre := (hR c);by_cases hc : c.length <= 2000
  ·rw [hF c hc]; exact hR c
  ·refine ⟨fun hl => by omega, fun hl => ?_⟩;simp only [zfV, if_pos (show 2000 < c.length by omega)] at hl;omega
theorem zmC {nm : List UInt8 -> Code -> Code} {nl : List UInt8 -> Code} {sh : Exp -> Bool} (h : ∀ s, Rel (nm s) (nl s)) : ∀ (l : List Exp) (i : Nat), Rel (zfI nm sh l i) (zdB nl sh l i)
 | [], i => by rw [zfI, zdB]; exact Rel.id
 | e :: r, 0 => by rw [zfI, zdB]; exact zjB h e
 | e :: r, i + 1 => by rw [zfI, zdB]; exact zmC h r i
theorem zmG {nm : List UInt8 -> Code -> Code} {nl : List UInt8 -> Code} {sh : Exp -> Bool} (h : ∀ s, Rel (nm s) (nl s)) : ∀ (l : List Exp), Rel (zga nm sh l) (zgR nl sh l)
 | [] => by rw [zga, zgR]; exact Rel.id
 | e :: r => by rw [zga, zgR]; exact (zjB h e).comp (zmG h r)
end
def nmL (lets : List Let) (sh : Nat -> Exp -> Bool) : Nat -> List UInt8 -> Code
 | 0, s => [⟨1, 0, s⟩]
 | n + 1, s => match lets[n]? with
  | none => [⟨1, 0, s⟩]
  | some l => if l.name = s then genL (nmL lets sh n) (sh n) l.body else nmL lets sh n s
theorem zoE {lets : List Let} {sh : Nat -> Exp -> Bool} : ∀ (n : Nat) (s : List UInt8), Rel (nmC lets sh n s) (nmL lets sh n s)
 | 0, s => by rw [nmC, nmL]; exact Rel.put (x := ⟨1, 0, s⟩) (by simp) (by simp)
 | n + 1, s => by
  rw [nmC, nmL];cases hl : lets[n]? with
  | none => exact Rel.put (x := ⟨1, 0, s⟩) (by simp) (by simp)
  | some l =>
   by_cases hn : l.name = s
   ·simp only [if_pos hn];exact zjB (fun t => zoE (lets := lets) (sh := sh) n t) _
   ·simp only [if_neg hn];exact zoE n s
def zeV (lets : List Let) (sh : Nat -> Exp -> Bool) (e : Exp) : Code := genL (nmL lets sh lets.length) (sh lets.length) e
theorem zqX (lets : List Let) (e : Exp) : ((zgs lets e).length < 2000 ↔ (zeV lets (shF lets) e).length < 2000) /\ ((zgs lets e).length < 2000 -> zgs lets e = zeV lets (shF lets) e) := by
 have h := zjB (sh := shF lets lets.length) (fun s => zoE (lets := lets) (sh := shF lets) lets.length s) e [];have h1 : (zeV lets (shF lets) e).length <= 2000 -> zgs lets e = zeV lets (shF lets) e := fun hl => by
  have := h.1 (by simpa [zeV] using hl);rw [List.nil_append, List.length_nil, zqt] at this;exact this
 have h2 : (zgs lets e).length <= 2000 -> (zeV lets (shF lets) e).length <= 2000 := fun hl => by simpa [zeV] using h.2 hl
 exact ⟨⟨fun hl => by rw [<- h1 (h2 (by omega))]; exact hl, fun hl => by rw [h1 (by omega)]; exact hl⟩, fun hl => h1 (h2 (by omega))⟩
end Go.Proofs.YtkdhmbhbbciedaaGreatDoor
namespace Go.Proofs.YtkdhmbhbbciedaaGreatDoor
open Go Go.VL
section
variable {m m' : List UInt8 -> Bool} {s : List UInt8}
mutual
theorem zgB (hm : ∀ n, n ≠ s -> m n = m' n) : ∀ e : Exp, zeP s e = false -> shareS m e = shareS m' e
 | .mk op n u t args, h => by
  rw [zeP, Bool.or_eq_false_iff] at h;have ha := zgD hm args h.2;rw [shareS, shareS, ha, ha];by_cases h0 : op = 0
  ·rw [if_pos h0, if_pos h0]
  by_cases h1 : op = 1
  ·have ht : t ≠ s := fun ht => by simp [h1, ht] at h
   rw [if_neg h0, if_neg h0, if_pos h1, if_pos h1, hm t ht]
  ·rw [if_neg h0, if_neg h0, if_neg h1, if_neg h1]
theorem zgD (hm : ∀ n, n ≠ s -> m n = m' n) : ∀ l : List Exp, zh5 s l = false -> ∀ i, zb9 m l i = zb9 m' l i
 | [], _, _ => by rw [zb9, zb9]
 | e :: l, h, i => by
  rw [zh5, Bool.or_eq_false_iff] at h;cases i with
  | zero => rw [zb9, zb9, zgB hm e h.1]
  | succ i => rw [zb9, zb9, zgD hm l h.2]
end
end
theorem zmJ : ∀ (L : Nat) (e : Exp) (most : Int), 0 <= most -> most <= 1000 -> zcf L e most <= most -> zh6 e = true
 | 0, e, most, _, _, h => by rw [zcf] at h; omega
 | L + 1, e, most, h0, h1000, h => by
  rw [zfy] at h;by_cases hs : 60 < e.s.length
  ·rw [if_pos hs] at h; omega
  rw [if_neg hs] at h;have key : ∀ (l : List Exp) (n : Int), 1 <= n -> l.foldl (fun n x => if n <= most then n + zcf L x (most - n) else n) n <= most -> n + l.length <= most /\ ∀ x ∈ l, zh6 x = true := by
   intro l
   induction l with
   | nil => intro n _ h; exact ⟨by simpa using h, by simp⟩
   | cons a l ih =>
    intro n h1 h2;rw [List.foldl_cons] at h2;by_cases hn : n <= most
    ·rw [if_pos hn] at h2;have hb := zeD L a (most - n) (by omega);have h3 := ih _ (by omega) h2;have h4 : n + zcf L a (most - n) <= most := by
      rcases Int.lt_or_le most (n + zcf L a (most - n)) with h5 | h5
      ·rw [zdY _ _ (by omega)] at h2; omega
      ·exact h5
     have h5 := zmJ L a (most - n) (by omega) (by omega) (by omega);refine ⟨by simp only [List.length_cons]; omega, fun x hx => ?_⟩;rcases List.mem_cons.1 hx with rfl | hx
     ·exact h5
     ·exact h3.2 x hx
    ·rw [if_neg hn, zdY _ _ hn] at h2; omega
  have h1 := key e.args 1 (by omega) h;exact (zj7 e).2 ⟨by omega, h1.2⟩
theorem zpf {e : Exp} {n : Int} (h0 : 0 <= n) (h1 : n <= 1000) (h : zn8 e n = true) : zh6 e = true := zmJ 16 e n h0 h1 (by simpa [zn8] using h)
mutual
theorem zir {m m' : List UInt8 -> Bool} {s : List UInt8} {b : Exp} (hb : m' s = shareS m b) (hn : ∀ n, n ≠ s -> m' n = m n) : ∀ e : Exp, shareS m (zfv s b e) = shareS m' e
 | .mk op n u t args => by
  rw [zfv];split
  ·rename_i hc;obtain ⟨rfl, rfl⟩ := hc;rw [shareS.eq_1 m', if_neg (by decide), if_pos rfl, hb]
  ·rename_i hc;have ha := zis hb hn args;rw [shareS, shareS, ha, ha];by_cases h1 : op = 1
   ·have ht : t ≠ s := fun ht => hc ⟨h1, ht⟩;rw [hn t ht]
   ·simp only [if_neg h1]
theorem zis {m m' : List UInt8 -> Bool} {s : List UInt8} {b : Exp} (hb : m' s = shareS m b) (hn : ∀ n, n ≠ s -> m' n = m n) : ∀ (l : List Exp) (i : Nat), zb9 m (zrN s b l) i = zb9 m' l i
 | [], _ => by rw [zrN, zb9, zb9]
 | e :: l, i => by
  rw [zrN];cases i with
  | zero => rw [zb9, zb9, zir hb hn e]
  | succ i => rw [zb9, zb9, zis hb hn l]
end
theorem zd8 (lets : List Let) (e : Exp) : zbW lets e = true ↔ lets.length <= 20 /\ zba 12 e = true /\ ∀ l ∈ lets, zba 12 l.body = true := by
 refine ⟨zgg, fun h => ?_⟩;simp only [zbW, Bool.and_eq_true, decide_eq_true_eq, Bool.not_eq_true', List.any_eq_false, Bool.not_eq_true];exact ⟨⟨h.1, h.2.1⟩, fun l hl => by simp [h.2.2 l hl]⟩
end Go.Proofs.YtkdhmbhbbciedaaGreatDoor
namespace Go.Proofs.YtkdhmbhbbciedaaGreatDoor
open Go Go.VL
theorem zpe (nm : List UInt8 -> Code) (sh : Exp -> Bool) (e : Exp) : genL nm sh e = if e.op = 0 then [⟨0, e.n, []⟩]
  else if e.op = 1 then nm e.s
  else if e.op = 10 then zej (zdB nm sh e.args 0) (zin (zdB nm sh e.args 1)) [⟨0, 0, []⟩]
  else if e.op = 11 then zej (zdB nm sh e.args 0) [⟨0, 1, []⟩] (zin (zdB nm sh e.args 1))
  else if e.op = 13 then zej (zdB nm sh e.args 0) (zdB nm sh e.args 1) (zdB nm sh e.args 2)
  else zgR nm sh e.args ++ [⟨zbY sh e.op e.args, 0, []⟩] := by
 cases e with | mk op n u s args => rw [genL]; rfl
theorem zfW {nm nm' : List UInt8 -> Code} {sh sh' : Exp -> Bool} {f : Exp -> Exp} : ∀ {l : List Exp}, (∀ x ∈ l, genL nm sh (f x) = genL nm' sh' x) -> ∀ i, zdB nm sh (l.map f) i = zdB nm' sh' l i
 | [], _, i => by rw [List.map_nil, zdB, zdB]
 | e :: r, h, 0 => by rw [List.map_cons, zdB, zdB]; exact h e (by simp)
 | e :: r, h, i + 1 => by rw [List.map_cons, zdB, zdB]; exact zfW (fun x hx => h x (by simp [hx])) i
theorem zfX {nm nm' : List UInt8 -> Code} {sh sh' : Exp -> Bool} {f : Exp -> Exp} : ∀ {l : List Exp}, (∀ x ∈ l, genL nm sh (f x) = genL nm' sh' x) -> zgR nm sh (l.map f) = zgR nm' sh' l
 | [], _ => by rw [List.map_nil, zgR, zgR]
 | e :: r, h => by rw [List.map_cons, zgR, zgR, h e (by simp), zfX fun x hx => h x (by simp [hx])]
theorem zmV {sh sh' : Exp -> Bool} {f : Exp -> Exp} : ∀ {l : List Exp} (n : Nat), (∀ x ∈ l, sh (f x) = sh' x) -> ((l.map f).take n).any sh = (l.take n).any sh'
 | [], n, _ => by simp
 | e :: r, 0, _ => by simp
 | e :: r, n + 1, h => by simp only [List.map_cons, List.take_succ_cons, List.any_cons]; rw [h e (by simp), zmV n fun x hx => h x (by simp [hx])]
theorem zfw {sh sh' : Exp -> Bool} {f : Exp -> Exp} {op : Int} {l : List Exp} (h : ∀ x ∈ l, sh (f x) = sh' x) : zbY sh op (l.map f) = zbY sh' op l := by
 unfold zbY;rw [zmV 2 h]
theorem zgo {nm : List UInt8 -> Code} {sh sh' : Exp -> Bool} : ∀ (d : Nat) (e : Exp), zba d e = true -> (∀ (k : Nat) x, zba k x = true -> k + 1 <= d -> sh x = sh' x) -> genL nm sh e = genL nm sh' e
 | 0, e, h, _ => by simp [zba] at h
 | d + 1, e, h, hs => by
  obtain ⟨h1, h2, h3, h4⟩ := zdT h;rw [zpe, zpe];by_cases c0 : e.op = 0
  ·rw [if_pos c0, if_pos c0]
  rw [if_neg c0, if_neg c0];by_cases c1 : e.op = 1
  ·rw [if_pos c1, if_pos c1]
  rw [if_neg c1, if_neg c1];have ih : ∀ x ∈ e.args, genL nm sh (id x) = genL nm sh' x := fun x hx => zgo d x (h4 c0 c1 x hx) fun k y hy hk => hs k y hy (by omega);have iN := zfW ih;have iA := zfX ih;have iP := zfw (op := e.op) (f := id) (fun x hx => hs d x (h4 c0 c1 x hx) (by omega) : ∀ x ∈ e.args, sh x = sh' x);simp only [List.map_id] at iN iA iP;simp only [iN, iA, iP]
mutual
theorem zmF {nm nm' : List UInt8 -> Code} {sh sh' : Exp -> Bool} {s : List UInt8} {b : Exp} (hb : nm' s = genL nm sh b) (hn : ∀ n, n ≠ s -> nm' n = nm n) (hs : ∀ x, sh (zfv s b x) = sh' x) : ∀ e : Exp, genL nm sh (zfv s b e) = genL nm' sh' e
 | .mk op n u t args => by
  rw [zfv];split
  ·rename_i hc;obtain ⟨rfl, rfl⟩ := hc;rw [genL.eq_1 nm', if_neg (by decide), if_pos rfl, hb]
  ·rename_i hc;have ih := zkP hb hn hs args;have iN := zfW ih;have iA := zfX ih;have iP := zfw (op := op) (f := zfv s b) (fun x _ => hs x : ∀ x ∈ args, sh (zfv s b x) = sh' x);rw [zji, genL, genL];simp only [iN, iA, iP];by_cases h1 : op = 1
   ·have ht : t ≠ s := fun ht => hc ⟨h1, ht⟩;rw [hn t ht]
   ·simp only [if_neg h1]
theorem zkP {nm nm' : List UInt8 -> Code} {sh sh' : Exp -> Bool} {s : List UInt8} {b : Exp} (hb : nm' s = genL nm sh b) (hn : ∀ n, n ≠ s -> nm' n = nm n) (hs : ∀ x, sh (zfv s b x) = sh' x) : ∀ l : List Exp, ∀ x ∈ l, genL nm sh (zfv s b x) = genL nm' sh' x
 | [], x, h => by cases h
 | e :: r, x, h => by
  rcases List.mem_cons.1 h with hx | h
  ·rw [hx]; exact zmF hb hn hs e
  ·exact zkP hb hn hs r x h
end
mutual
theorem ziS {nm nm' : List UInt8 -> Code} {sh sh' : Exp -> Bool} {s : List UInt8} (hn : ∀ n, n ≠ s -> nm n = nm' n) (hs : ∀ x, zeP s x = false -> sh x = sh' x) : ∀ e : Exp, zeP s e = false -> genL nm sh e = genL nm' sh' e
 | .mk op n u t args, h => by
  rw [zeP, Bool.or_eq_false_iff] at h;have ih := zhK hn hs args h.2;have hu : ∀ x ∈ args, zeP s x = false := by
   have := h.2;rw [zhb, List.any_eq_false] at this;exact fun x hx => by simpa using this x hx
  have iN := zfW (f := id) ih;have iA := zfX (f := id) ih;have iP := zfw (op := op) (f := id) (fun x hx => hs x (hu x hx) : ∀ x ∈ args, sh x = sh' x);simp only [List.map_id] at iN iA iP;rw [genL, genL];simp only [iN, iA, iP];by_cases h1 : op = 1
  ·have ht : t ≠ s := fun ht => by simp [h1, ht] at h
   rw [hn t ht]
  ·simp only [if_neg h1]
theorem zhK {nm nm' : List UInt8 -> Code} {sh sh' : Exp -> Bool} {s : List UInt8} (hn : ∀ n, n ≠ s -> nm n = nm' n) (hs : ∀ x, zeP s x = false -> sh x = sh' x) : ∀ l : List Exp, zh5 s l = false -> ∀ x ∈ l, genL nm sh (id x) = genL nm' sh' x
 | [], _, x, h => by cases h
 | e :: r, hu, x, h => by
  rw [zh5, Bool.or_eq_false_iff] at hu;rcases List.mem_cons.1 h with hx | h
  ·rw [hx]; exact ziS hn hs e hu.1
  ·exact zhK hn hs r hu.2 x h
end
def shS (lets : List Let) (n : Nat) : Exp -> Bool := shareS (sF (mOf [] (lets.take n)))
theorem zht {lets lets' : List Let} {sh sh' : Nat -> Exp -> Bool} : ∀ {n : Nat}, (∀ i, i < n -> lets[i]? = lets'[i]? /\ sh i = sh' i) -> ∀ s, nmL lets sh n s = nmL lets' sh' n s
 | 0, _, s => by rw [nmL, nmL]
 | n + 1, h, s => by
  have ih := zht (n := n) (lets := lets) (lets' := lets') (sh := sh) (sh' := sh') fun i hi => h i (by omega);obtain ⟨h1, h2⟩ := h n (by omega);rw [nmL, nmL, h1, h2, funext ih]
theorem ztx {lets : List Let} (hl : lets.length <= 20) (hr : ∀ l ∈ lets, zba 12 l.body = true) {n : Nat} {k : Nat} {x : Exp} (hx : zba k x = true) (hk : k <= 12) : shF lets n x = shS lets n x := by
 unfold shF shS zgC;have : zbW (lets.take n) x = true := by
  unfold zbW;rw [zhh hk hx];simp only [Bool.and_true, Bool.and_eq_true, decide_eq_true_eq, Bool.not_eq_true', List.any_eq_false, Bool.not_eq_true];exact ⟨by simp; omega, fun l hl => by simp [hr l (List.mem_of_mem_take hl)]⟩
 rw [this, Bool.true_and]
theorem ztE {lets : List Let} (hl : lets.length <= 20) (hr : ∀ l ∈ lets, zba 12 l.body = true) : ∀ (n : Nat) (s : List UInt8), nmL lets (shF lets) n s = nmL lets (shS lets) n s
 | 0, s => by rw [nmL, nmL]
 | n + 1, s => by
  have ih := funext (ztE hl hr n);rw [nmL, nmL, ih];cases hx : lets[n]? with
  | none => rfl
  | some l =>
   simp only;rw [zgo 12 l.body (hr l (List.mem_of_getElem? hx)) fun k x hx hk => ztx hl hr hx (by omega)]
theorem zsG {lets : List Let} {e : Exp} (h : zbW lets e = true) : zeV lets (shF lets) e = zeV lets (shS lets) e := by
 obtain ⟨h1, h2, h3⟩ := zgg h;unfold zeV;rw [funext (ztE h1 h3 lets.length)];exact zgo 12 e h2 fun k x hx hk => ztx h1 h3 hx (by omega)
theorem zhO (lets : List Let) (e : Exp) : zdC lets e = if zbW lets e = true then (if 2000 <= (zeV lets (shS lets) e).length then ([], 6) else (zeV lets (shS lets) e ++ [⟨14, 0, []⟩], 0)) else ([], 1) := by
 unfold zdC;by_cases h : zbW lets e = true
 ·rw [if_pos h, if_pos h];obtain ⟨h1, h2⟩ := zqX lets e;rw [zsG h] at h1 h2;by_cases hl : (zgs lets e).length < 2000
  ·rw [if_neg (by omega), if_neg (by omega), h2 hl]
  ·rw [if_pos (by omega), if_pos (by omega)]
 ·rw [if_neg h, if_neg h]
theorem zjs (lets : List Let) (l : Let) (s : List UInt8) : sF (mOf [] (lets ++ [l])) s = if s = l.name then shareS (sF (mOf [] lets)) l.body else sF (mOf [] lets) s := by
 unfold mOf sF;rw [List.foldl_append];simp only [List.foldl_cons, List.foldl_nil];rw [zl1];split <;> rfl
theorem zqZ {lets : List Let} {l : Let} {e : Exp} : zeV (lets ++ [l]) (shS (lets ++ [l])) e = zeV lets (shS lets) (zfv l.name l.body e) := by
 have hnm : ∀ s, nmL (lets ++ [l]) (shS (lets ++ [l])) lets.length s = nmL lets (shS lets) lets.length s := zht fun i hi =>
  ⟨List.getElem?_append_left hi, by unfold shS; rw [List.take_append_of_le_length (by omega)]⟩
 have hsh : shS (lets ++ [l]) lets.length = shS lets lets.length := by unfold shS; rw [List.take_append_of_le_length (Nat.le_refl _)]
 have hlen : (lets ++ [l]).length = lets.length + 1 := by simp
 have zbz : ∀ s, nmL (lets ++ [l]) (shS (lets ++ [l])) (lets.length + 1) s = if l.name = s then genL (nmL lets (shS lets) lets.length) (shS lets lets.length) l.body else nmL lets (shS lets) lets.length s := fun s => by
  rw [nmL, List.getElem?_append_right (Nat.le_refl _), Nat.sub_self];simp only [List.getElem?_cons_zero];rw [funext hnm, hsh]
 unfold zeV;rw [hlen];refine (zmF (s := l.name) (b := l.body) (by rw [zbz, if_pos rfl]) (fun n hn => by rw [zbz, if_neg (Ne.symm hn)]) (fun x => ?_) e).symm;unfold shS;rw [show (lets ++ [l]).take (lets.length + 1) = lets ++ [l] from List.take_of_length_le (by simp), List.take_length];exact zir (by rw [zjs, if_pos rfl]) (fun n hn => by rw [zjs, if_neg hn]) x
theorem znP {lets : List Let} {o : Let} {e : Exp} (he : zeP o.name e = false) : zeV (lets ++ [o]) (shS (lets ++ [o])) e = zeV lets (shS lets) e := by
 have hnm : ∀ s, nmL (lets ++ [o]) (shS (lets ++ [o])) lets.length s = nmL lets (shS lets) lets.length s := zht fun i hi =>
  ⟨List.getElem?_append_left hi, by unfold shS; rw [List.take_append_of_le_length (by omega)]⟩
 have hlen : (lets ++ [o]).length = lets.length + 1 := by simp
 unfold zeV;rw [hlen];refine ziS (s := o.name) (fun n hn => ?_) (fun x hx => ?_) e he
 ·rw [nmL, List.getElem?_append_right (Nat.le_refl _), Nat.sub_self];simp only [List.getElem?_cons_zero];rw [if_neg (Ne.symm hn), hnm]
 ·unfold shS;rw [show (lets ++ [o]).take (lets.length + 1) = lets ++ [o] from List.take_of_length_le (by simp), List.take_length];exact zgB (fun n hn => by rw [zjs, if_neg hn]) x hx
theorem zqY {lets : List Let} {l : Let} {e : Exp} (h : zbW (lets ++ [l]) e = true) (hx : zba 12 (zfv l.name l.body e) = true) : zdC (lets ++ [l]) e = zdC lets (zfv l.name l.body e) := by
 obtain ⟨h1, h2, h3⟩ := (zd8 _ _).1 h;rw [zhO, zhO, if_pos h, if_pos ((zd8 _ _).2 ⟨by simp at h1; omega, hx, fun x hm => h3 x (by simp [hm])⟩), zqZ]
theorem znO {lets : List Let} {o : Let} {e : Exp} (h : zbW lets e = true) (hn : lets.length < 20) (ho : zba 12 o.body = true) (he : zeP o.name e = false) : zdC (lets ++ [o]) e = zdC lets e := by
 obtain ⟨h1, h2, h3⟩ := (zd8 _ _).1 h;rw [zhO, zhO, if_pos h, if_pos ((zd8 _ _).2 ⟨by simp; omega, h2, fun x hm => by
  rcases List.mem_append.1 hm with hm | hm
  ·exact h3 x hm
  ·rw [List.mem_singleton.1 hm]; exact ho⟩), znP he]
end Go.Proofs.YtkdhmbhbbciedaaGreatDoor
namespace Go.Proofs.YtkdhmbhbbciedaaGreatDoor
open Go Go.VL
theorem drop_length {m : Vm.Mach} (k : Nat) : (m.drop k).stack.length = m.stack.length - k := by simp [Vm.Mach.drop]
end Go.Proofs.YtkdhmbhbbciedaaGreatDoor
namespace Go.Proofs.YtkdhmbhbbciedaaGreatDoor
open Go Go.VL
end Go.Proofs.YtkdhmbhbbciedaaGreatDoor
namespace Go.Proofs.YtkdhmbhbbciedaaGreatDoor
open Go Go.VL
attribute [local simp] HS zaY zcB zbz evPure opd uOf zal St.put St.at getK binD binI binS binB nilD aggD zeS zfd lookD lookR zbE rangeS Go.VL.nextD Go.VL.nextS zbJ zfk zfe zeu zb7 mkV zaZ zcH zaL za1 mapEff zdw zek Key.kk shiftI arith unD convD zcP loadD cellsAt fieldAddrD fieldD indexAddrD indexSlD arrAddr indexD sliceD cutD lenD minmaxD nilCheckD buildD fillD zbn zcC zd1 setAll zcx zdZ zbD zeO zbC St.add zaj za6 rowsOf zcI zca zad zac zaa zaQ zcs zaG entry za2 za3 valD zbK zcq zeL zcD zcE zbp zbo zag zaB za0 delAll effD St.effS zb4 zaD zas zb5 zaE zau zbl zat zan zbm zb2 zaW zbj zaJ zbi zah mkD zbd za4 zbb zag zbN D.ids Op.operands Call.operands za5 makeIfD makeFuncD typeAssertD zfc zcL zcM zeY zbG IntKind.bits zbQ zam List.take_of_length_le List.range_succ zci zbx zcj zcd za7 zbq zbs zce zbu zaP zbt zbr zfJ zbw zcg zaH zav zch zaI zax zbv zaw zaq zcm zcn zfH zab frzN frz1 zaO zaN St.frz St.frzS frzS fv zbI zbV zcb zaM zay zao frz zcc zbH zbS zbT zaX St.norm St.lp St.only zaS wkE wkO wkU Ob.under D.under zai zap zck zby zcl h4s zdG zar zaV List.zipIdx_cons List.zipIdx_nil List.map_cons List.map_nil Nat.zero_add
attribute [local irreducible] V G H HD HD2 HD4 zgA RetX zaT Eff CallP CallV EndOK Fun Ret FinOK LoopI LoopW EndW HR vs2 RN Cnd H4
end Go.Proofs.YtkdhmbhbbciedaaGreatDoor
namespace Go.Proofs.YtkdhmbhbbciedaaGreatDoor
open Go Go.VL
section
variable {lets : List Let} {G : List UInt8 -> Option Int} {n : Nat} {e x y z : Exp} {t t1 t2 : Tab}
end
attribute [local simp] HS zaY zcB zbz evPure opd uOf zal St.put St.at getK binD binI binS binB nilD aggD zeS zfd lookD lookR zbE rangeS Go.VL.nextD Go.VL.nextS zbJ zfk zfe zeu zb7 mkV zaZ zcH zaL za1 mapEff zdw zek Key.kk shiftI arith unD convD zcP loadD cellsAt fieldAddrD fieldD indexAddrD indexSlD arrAddr indexD sliceD cutD lenD minmaxD nilCheckD buildD fillD zbn zcC zd1 setAll zcx zdZ zbD zeO zbC St.add zaj za6 rowsOf zcI zca zad zac zaa zaQ zcs zaG entry za2 za3 valD zbK zcq zeL zcD zcE zbp zbo zag zaB za0 delAll effD St.effS zb4 zaD zas zb5 zaE zau zbl zat zan zbm zb2 zaW zbj zaJ zbi zah mkD zbd za4 zbb zag zbN D.ids Op.operands Call.operands za5 makeIfD makeFuncD typeAssertD zfc zcL zcM zeY zbG IntKind.bits zbQ zam List.take_of_length_le List.range_succ zci zbx zcj zcd za7 zbq zbs zce zbu zaP zbt zbr zfJ zbw zcg zaH zav zch zaI zax zbv zaw zaq zcm zcn zfH zab frzN frz1 zaO zaN St.frz St.frzS frzS fv zbI zbV zcb zaM zay zao frz zcc zbH zbS zbT zaX St.norm St.lp St.only zaS wkE wkO wkU Ob.under D.under zai zap zck zby zcl h4s zdG zar zaV List.zipIdx_cons List.zipIdx_nil List.map_cons List.map_nil Nat.zero_add
attribute [local irreducible] V G H HD HD2 HD4 zgA RetX zaT Eff CallP CallV EndOK Fun Ret FinOK LoopI LoopW EndW HR vs2 RN Cnd H4
end Go.Proofs.YtkdhmbhbbciedaaGreatDoor
namespace Go.Proofs.YtkdhmbhbbciedaaGreatDoor
open Go Go.VL
attribute [local simp] HS zaY zcB zbz evPure opd uOf zal St.put St.at getK binD binI binS binB nilD aggD zeS zfd lookD lookR zbE rangeS Go.VL.nextD Go.VL.nextS zbJ zfk zfe zeu zb7 mkV zaZ zcH zaL za1 mapEff zdw zek Key.kk shiftI arith unD convD zcP loadD cellsAt fieldAddrD fieldD indexAddrD indexSlD arrAddr indexD sliceD cutD lenD minmaxD nilCheckD buildD fillD zbn zcC zd1 setAll zcx zdZ zbD zeO zbC St.add zaj za6 rowsOf zcI zca zad zac zaa zaQ zcs zaG entry za2 za3 valD zbK zcq zeL zcD zcE zbp zbo zag zaB za0 delAll effD St.effS zb4 zaD zas zb5 zaE zau zbl zat zan zbm zb2 zaW zbj zaJ zbi zah mkD zbd za4 zbb zag zbN D.ids Op.operands Call.operands za5 makeIfD makeFuncD typeAssertD zfc zcL zcM zeY zbG IntKind.bits zbQ zam List.take_of_length_le List.range_succ zci zbx zcj zcd za7 zbq zbs zce zbu zaP zbt zbr zfJ zbw zcg zaH zav zch zaI zax zbv zaw zaq zcm zcn zfH zab frzN frz1 zaO zaN St.frz St.frzS frzS fv zbI zbV zcb zaM zay zao frz zcc zbH zbS zbT zaX St.norm St.lp St.only zaS wkE wkO wkU Ob.under D.under zai zap zck zby zcl h4s zdG zar zaV List.zipIdx_cons List.zipIdx_nil List.map_cons List.map_nil Nat.zero_add
attribute [local irreducible] V G H HD HD2 HD4 zgA RetX zaT Eff CallP CallV EndOK Fun Ret FinOK LoopI LoopW EndW HR vs2 RN Cnd H4
theorem zdm (l : List Tok) (p : Nat) (t : Tok) (hp : l[p]? = some t) (hl : l.length <= 1000000) : Fun Tryz.prog 108 [.u (zrO l p)] (· = .u (.agg [.int .i64 t.kind, .str t.text, .int .i64 t.n, .int .i64 t.pos])) := by
 have hlt := (List.getElem?_eq_some_iff.1 hp).1;unfold zrO zol;refine Fun.run Tryz.func108 Tryz.ntmps108 Tryz.results108 rfl (by simp) fun Γ hn => ?_
 repeat' (first
  | (refine zaf rfl ?_; simp [hp])
  | (refine ⟨hC _ (by kernel_rfl), hk _ (zel 8 _ _ _ ?_)⟩; clear hC hk C k; simp [hp])
  | (refine zeW rfl (by kernel_rfl) (by first | (simp [hn]; done) | (simp [hn]; omega) | fail) fun C k hC hk => ?_; simp [hp])
  | fail)
 (refine Pst.of ?_; simp)
theorem zgI (l : List Tok) (p : Nat) (w : List UInt8) (hp : p < l.length) (hl : l.length <= 1000000) : Fun Tryz.prog 143 [.u (zrO l p), .u (.str w)] (· = .u (.bool (isB l p w))) := by
 obtain ⟨t, ht⟩ : ∃ t, l[p]? = some t := ⟨_, List.getElem?_eq_getElem hp⟩;have hnx := zdm l p t ht hl;unfold isB;rw [ht];unfold zrO zol at *;by_cases h1 : t.kind = 0
 ·refine Fun.run Tryz.func143 Tryz.ntmps143 Tryz.results143 rfl (by simp) fun Γ hn => ?_
  repeat' (first
  | (refine zaf rfl ?_; simp [h1])
  | (refine CallP.f2 rfl (hnx) (by first | simp [h1] <;> rfl | fail) ?_; simp [h1])
  | fail)
  all_goals
   (refine Pst.of ?_; simp)
  all_goals simp [h1]
 ·refine Fun.run Tryz.func143 Tryz.ntmps143 Tryz.results143 rfl (by simp) fun Γ hn => ?_
  repeat' (first
  | (refine zaf rfl ?_; simp [h1])
  | (refine CallP.f2 rfl (hnx) (by first | simp [h1] <;> rfl | fail) ?_; simp [h1])
  | fail)
  all_goals
   (refine Pst.of ?_; simp)
  all_goals simp [h1]
theorem zcp (l : List Tok) (p : Nat) (w : List UInt8) (i nx : Nat) (hi : i < nx) (hp : p < l.length) (hl : l.length <= 1000000) :
  RetX Tryz.prog 168 [.ptr i 0, .u (.str w)] [(i, pOb l p)] nx (fun r o n => r = .val (.u (.bool (isB l p w))) /\ o = [(i, pOb l (if isB l p w = true then p + 1 else p))] /\ n = nx) := by
 have h1 := zgI l p w hp hl;unfold pOb zrO zol at *;cases hb : isB l p w with
 | false =>
  rw [hb] at h1;refine RetX.runW Tryz.func168 Tryz.ntmps168 rfl (by simp) fun Γ hn hpan => ?_
  repeat' (first
  | (refine zaf rfl ?_; simp)
  | (refine CallP.f2 rfl (h1) (by first | simp <;> rfl | fail) ?_; simp)
  | fail)
  (refine EndW.h Tryz.results168 ?_; simp)
 | true =>
  rw [hb] at h1;refine RetX.runW Tryz.func168 Tryz.ntmps168 rfl (by simp) fun Γ hn hpan => ?_
  repeat' (first
  | (refine zaf rfl ?_; simp)
  | (refine And.intro (by omega) ?_)
  | (refine CallP.f2 rfl (h1) (by first | simp <;> rfl | fail) ?_; simp)
  | fail)
  (refine EndW.h Tryz.results168 ?_; simp)
def chP (pos e : Int) : List PanicEntry := [{ v := .iface 179 (.agg #[.int .i64 pos, .int .i64 e]), recovered := false }]
def isP (l : List Tok) (ob : Ob) : Prop := ∃ q : Nat, ob = pOb l q
theorem zg5 (l : List Tok) (p : Nat) (e : Int) (i nx : Nat) (hi : i < nx) :
  RetX Tryz.prog 107 [.ptr i 0, .u (.bool true), .u (.int .i64 e)] [(i, pOb l p)] nx (fun r o n => r = .val (.tup []) /\ o = [(i, pOb l p)] /\ n = nx) := by
 refine RetX.runW Tryz.func107 Tryz.ntmps107 rfl (by simp) fun Γ hn hpan => ?_
 repeat' (first
  | (refine zaf rfl ?_; simp)
  | fail)
 (refine EndW.h Tryz.results107 ?_; simp)
theorem zf3 (l : List Tok) (p : Nat) (t : Tok) (e : Int) (i nx : Nat) (hi : i < nx) (hp : l[p]? = some t) (hl : l.length <= 1000000) :
  RetX Tryz.prog 107 [.ptr i 0, .u (.bool false), .u (.int .i64 e)] [(i, pOb l p)] nx (fun r o n => r = .pan (chP t.pos e) /\ (∃ ob', isP l ob' /\ o = [(i, ob')]) /\ n = nx) := by
 have h1 := zdm l p t hp hl;refine RetX.runW Tryz.func107 Tryz.ntmps107 rfl (by simp) fun Γ hn hpan => ?_
 repeat' (first
  | (refine zaf rfl ?_; simp)
  | (refine CallP.f2 rfl (h1) (by first | simp <;> rfl | fail) ?_; simp)
  | fail)
 all_goals
  (refine hpan _ _ (PanG.k ([(i, pOb l p)]) (nx) (by simp [hn, hi] <;> omega) ?_); try simp)
  all_goals exact ⟨rfl, p, rfl⟩
inductive PR (α : Type) where
 | ok (a : α) (p : Nat)
 | stop (pos e : Int)
def zks (l : List Tok) (p : Nat) : Int := match l[p]? with | some t => t.pos | none => 0
def zdv (l : List Tok) : Nat -> List (List UInt8) -> PR Unit
 | p, [] => .ok () p
 | p, w :: ws => if isB l p w = true then zdv l (p + 1) ws else .stop (zks l p) 12
def PPost {α : Type} (l : List Tok) (i nx : Nat) (val : α -> D) : PR α -> Out -> List (Nat × Ob) -> Nat -> Prop
 | .ok a q, o, obs, n => o = .val (val a) /\ obs = [(i, pOb l q)] /\ n = nx
 | .stop pos e, o, obs, n => o = .pan (chP pos e) /\ (∃ ob', isP l ob' /\ obs = [(i, ob')]) /\ n = nx
theorem zme (l : List Tok) (p : Nat) (ws : List (List UInt8)) (i nx : Nat) (hi : i < nx) (hp : p < l.length) (hl : TokOK l) (hw : ws.length <= 100) :
  RetX Tryz.prog 169 [.ptr i 0, .u (.sl (ws.map fun w => [.str w]))] [(i, pOb l p)] nx (PPost l i nx (fun _ => .tup []) (zdv l p ws)) := by
 refine RetX.runW Tryz.func169 Tryz.ntmps169 rfl (by simp) fun Γ hn hpan => ?_
 repeat' (first
  | (refine zaf rfl ?_; simp)
  | fail)
 refine zdg (α := { x : Nat × Nat // x.1 <= ws.length /\ x.2 < l.length /\ zdv l p ws = zdv l x.2 (ws.drop x.1) }) [0, 6, 7] (fun x => [(8, .u (.int .i64 x.1.1))]) (fun x => [(i, pOb l x.1.2)]) nx (fun x => ws.length - x.1.1) ⟨(0, p), by simp, hp, by simp⟩ ?_ ?_
 ·exact (Wk.zeX (by simp [hn, hi] <;> grind))
 rintro ⟨⟨k, q⟩, h1, h2, h3⟩;simp only at h1 h2 h3;simp;rcases hx : ws[k]? with _ | w
 ·have hge : ws.length <= k := by simpa using hx
  obtain rfl : k = ws.length := by omega
  rw [List.drop_length, zdv] at h3
  repeat' (first
  | (refine zaf rfl ?_; simp [hx])
  | fail)
  rw [h3]
  (refine EndW.h Tryz.results169 ?_; simp)
  simp [PPost]
 ·have hlt : k < ws.length := (List.getElem?_eq_some_iff.1 hx).1;have hd : ws.drop k = w :: ws.drop (k + 1) := by
   obtain ⟨h5, h6⟩ := List.getElem?_eq_some_iff.1 hx;rw [<- h6, List.getElem_cons_drop]
  rw [hd, zdv] at h3;have hh := zcp l q w i nx hi h2 hl.len;by_cases hb : isB l q w = true
  ·rw [if_pos hb] at h3;rw [hb, if_pos rfl] at hh;have hq := zcA hl hb;have hck := zg5 l (q + 1) 12 i nx hi
   repeat' (first
  | (refine Cnd.of (fun hc => ?_) (fun hc => ?_) <;> (try (exfalso; omega)) <;> (try simp [hx]))
  | (refine zaf rfl ?_; simp [hx])
  | (refine And.intro (by omega) ?_)
  | (refine CallP.ok1 (hh) (by first | (simp [hx, zaa, getK, zab, zac]; done) | fail) (by rfl) (by first | assumption | (simp; done) | fail) (by rfl) (by simp) ?_; (try simp [hx]))
  | (refine CallP.ok1 (hck) (by first | (simp [hx, zaa, getK, zab, zac]; done) | fail) (by rfl) (by first | assumption | (simp; done) | fail) (by rfl) (by simp) ?_; (try simp [hx]))
  | fail)
   refine LoopW.next ⟨(k + 1, q + 1), by omega, hq, h3⟩ (by simp; omega) ?_
   exact (Wk.zeX (by simp [hn, hi, zab, zac, zaa, getK] <;> grind))
  ·have hb2 : isB l q w = false := by simpa using hb
   rw [if_neg hb] at h3;rw [hb2, if_neg (by simp)] at hh;obtain ⟨t, ht⟩ : ∃ t, l[q]? = some t := ⟨_, List.getElem?_eq_getElem h2⟩;have hck := zf3 l q t 12 i nx hi ht hl.len
   repeat' (first
  | (refine Cnd.of (fun hc => ?_) (fun hc => ?_) <;> (try (exfalso; omega)) <;> (try simp [hx]))
  | (refine zaf rfl ?_; simp [hx])
  | (refine CallP.ok1 (hh) (by first | (simp [hx, zaa, getK, zab, zac]; done) | fail) (by rfl) (by first | assumption | (simp; done) | fail) (by rfl) (by simp) ?_; (try simp [hx]))
  | (refine CallP.zg8 (hck) (by first | (simp [hx, zaa, getK, zab, zac]; done) | fail) (by rfl) (by first | assumption | (simp; done) | fail) (by rfl) (by simp) ?_; rintro ob' ⟨q', rfl⟩; refine ⟨_, Wk.refl _, ?_⟩)
  | fail)
   rw [h3] at hpan
   (refine hpan _ _ (PanG.k ([(i, pOb l q')]) (nx) (by simp [hn, hi, zab, zac, zaa, getK] <;> omega) ?_); try simp)
   all_goals exact ⟨by simp [zks, ht], ⟨_, ⟨q', rfl⟩, rfl⟩, rfl⟩
theorem zfO (lets : List Let) (shs : List Bool) (c : Code) (i : Ins) (m q nx : Nat) (hm : m < nx) (hq : q < nx) (hmq : m ≠ q) (hl : c.length <= 100000) : RetX Tryz.prog 38 [.ptr m 0, .u (.agg [.int .i64 i.op, .int .i64 i.a, .str i.s])] [(m, cOb lets shs q c), (q, kOb c)] nx
  fun r o n' => r = .val (.u (.int .i64 (((zb8 c i).length : Int) - 1))) /\ o = [(m, cOb lets shs nx (zb8 c i)), (nx, kOb (zb8 c i))] /\ n' = nx + 1 := by
 have hne := nef hm;have hne2 := nef hq;have hlr := zhE c;have hm1 : m < nx + 1 := by omega
 unfold cOb kOb;generalize zaA shs = y;simp only [zaz];unfold zb8;by_cases hc2 : c.length <= 2000
 ·rw [if_pos hc2];refine RetX.runW Tryz.func38 Tryz.ntmps38 rfl (by simp) fun Γ hn hpan => ?_
  repeat' (first
  | (refine Cnd.of (fun hc => ?_) (fun hc => ?_) <;> (try (exfalso; omega)) <;> (try simp [hne, hne2, hmq, Ne.symm hmq, hc2, Nat.add_assoc, del]))
  | (refine zaf rfl ?_; simp [hne, hne2, hmq, Ne.symm hmq, hc2, Nat.add_assoc, del])
  | (refine And.intro (by omega) ?_)
  | (refine ⟨hC _ (zdo [m, q] nx (by simp <;> omega) (by simp <;> omega) (by apply Exists.intro; apply And.intro; (focus (repeat' (first | exact KF.nil | exact KL.nil | apply KF.cons | apply KL.cons 0 rfl | apply KL.cons 1 rfl | apply KL.cons 2 rfl | apply KL.cons 3 rfl | apply KL.cons 4 rfl | apply KL.cons 5 rfl | apply KL.cons 6 rfl | apply KL.cons 7 rfl | apply KL.cons 8 rfl | apply KL.cons 9 rfl))); kernel_rfl)), hk _ (zel 8 _ _ _ ?_)⟩; clear hC hk C k; simp [hne, hne2, hmq, Ne.symm hmq, hc2, Nat.add_assoc, del])
  | (refine zeW rfl (by kernel_rfl) (by first | (simp [hn]; done) | (simp [hn]; omega) | fail) fun C k hC hk => ?_; simp [hne, hne2, hmq, Ne.symm hmq, hc2, Nat.add_assoc, del])
  | fail)
  refine EndW.wk { n := _, env := [(4, .u (.int .i64 c.length))], obs := [(m, .box [.u (.sl (lets.map fun l => [.str l.name, .int .i64 l.body.op, .int .i64 l.body.n, .int .i64 l.body.unit, .str l.body.s, .sl (l.body.args.map Exp.row)])), .u y, .vec nx (c.length + 1)]), (nx, .vec 44 3 (zdk c ++ [[.u (.int .i64 i.op), .u (.int .i64 i.a), .u (.str i.s)]]))], next := nx + 1 } (Wk.ren ((fun i => if i = nx then nx + 2 else i)) rfl (by first | (simp [hn]; done) | (intro i hi; rw [hn] at hi; constructor <;> (try simp) <;> (try (intro _)) <;> omega)) (by simp [zfK, St.lp, zaS, zaa, getK, zac, zad, D.under, D.le, D.ren, hne, hne2, hmq, Ne.symm hmq, hm1, zbk] <;> (try (intros; simp_all; done)) <;> (try omega)) (by simp [wkR, St.lp, zaa, getK, zac, zad, obR, leU, zbe, zaF, Ob.under, D.under, D.le, D.ren, hne, hne2, hmq, Ne.symm hmq, hm1, zbk] <;> (try (intros; simp_all; done)) <;> (try omega)) (by simp [hne, hne2, hmq, Ne.symm hmq, hm1, zbk])) ?_
  (refine EndW.h Tryz.results38 ?_; simp)
 ·rw [if_neg hc2];refine RetX.runW Tryz.func38 Tryz.ntmps38 rfl (by simp) fun Γ hn hpan => ?_
  repeat' (first
  | (refine Cnd.of (fun hc => ?_) (fun hc => ?_) <;> (try (exfalso; omega)) <;> (try simp [hne, hne2, hmq, Ne.symm hmq, hc2, Nat.add_assoc, del]))
  | (refine zaf rfl ?_; simp [hne, hne2, hmq, Ne.symm hmq, hc2, Nat.add_assoc, del])
  | (refine And.intro (by omega) ?_)
  | fail)
  refine EndW.wk { n := _, env := [(4, .u (.int .i64 ((c.length : Int) - 1)))], obs := [(m, .box [.u (.sl (lets.map fun l => [.str l.name, .int .i64 l.body.op, .int .i64 l.body.n, .int .i64 l.body.unit, .str l.body.s, .sl (l.body.args.map Exp.row)])), .u y, .vec nx c.length]), (nx, .vec 44 3 (zdk c))], next := nx + 1 } (Wk.ren ((fun i => if i = nx then q else i)) rfl (by first | (simp [hn]; done) | (intro i hi; rw [hn] at hi; constructor <;> (try simp) <;> (try (intro _)) <;> omega)) (by simp [zfK, St.lp, zaS, zaa, getK, zac, zad, D.under, D.le, D.ren, hne, hne2, hmq, Ne.symm hmq, hm1, zbk] <;> (try (intros; simp_all; done)) <;> (try omega)) (by simp [wkR, St.lp, zaa, getK, zac, zad, obR, leU, zbe, zaF, Ob.under, D.under, D.le, D.ren, hne, hne2, hmq, Ne.symm hmq, hm1, zbk] <;> (try (intros; simp_all; done)) <;> (try omega)) (by simp [hne, hne2, hmq, Ne.symm hmq, hm1, zbk])) ?_
  (refine EndW.h Tryz.results38 ?_; simp)
theorem ziM (lets : List Let) (shs : List Bool) (c : Code) (j : Nat) (m q nx : Nat) (hm : m < nx) (hq : q < nx) (hmq : m ≠ q) (hl : c.length <= 100000) (hj : j < c.length) : RetX Tryz.prog 111 [.ptr m 0, .u (.int .i64 j)] [(m, cOb lets shs q c), (q, kOb c)] nx
  fun r o n' => r = .val (.tup []) /\ o = [(m, cOb lets shs nx (zdp c j)), (nx, kOb (zdp c j))] /\ n' = nx + 1 := by
 have hne := nef hm;have hne2 := nef hq;have hm1 : m < nx + 1 := by omega
 have hx : c[j]? = some c[j] := List.getElem?_eq_getElem hj;have hxr := zsp hx;have hlen := zbA c j;have hset := zqM c j { c[j] with a := c.length };have hland : zdp c j = c.set j { c[j] with a := c.length } := by unfold zdp; rw [hx]
 have hp := zbk (zdp c j);rw [hland] at hlen hp ⊢;generalize c.set j { c[j] with a := c.length } = c2 at *;generalize c[j] = x at *;have hij := zeG c;have hj2 : j < (zdk c).length := by omega
 unfold cOb kOb;rw [hlen];generalize zaA shs = y;generalize hR : zdk c = R at *;generalize zdk c2 = R2 at *;have hxe : R[j] = [.u (.int .i64 x.op), .u (.int .i64 x.a), .u (.str x.s)] := by
  rw [List.getElem?_eq_getElem hj2] at hxr;exact Option.some.inj hxr
 simp only at hset;clear hland hx hR hxr;simp only [zaz];refine RetX.runW Tryz.func111 Tryz.ntmps111 rfl (by simp) fun Γ hn hpan => ?_
 repeat' (first
  | (refine ⟨hC _ (zdo [m, q] nx (by simp <;> omega) (by simp <;> omega) (by apply Exists.intro; apply And.intro; (focus (repeat' (first | exact KF.nil | exact KL.nil | apply KF.cons | apply KL.cons 0 rfl | apply KL.cons 1 rfl | apply KL.cons 2 rfl | apply KL.cons 3 rfl | apply KL.cons 4 rfl | apply KL.cons 5 rfl | apply KL.cons 6 rfl | apply KL.cons 7 rfl | apply KL.cons 8 rfl | apply KL.cons 9 rfl))); kernel_rfl)), hk _ (zel 8 _ _ _ ?_)⟩; clear hC hk C k; simp [hne, hne2, hmq, Ne.symm hmq, Nat.add_assoc, del, hij, hj, hxe, hset])
  | (refine zeW rfl (by kernel_rfl) (by first | (simp [hn]; done) | (simp [hn]; omega) | fail) fun C k hC hk => ?_; simp [hne, hne2, hmq, Ne.symm hmq, Nat.add_assoc, del, hij, hj, hxe, hset])
  | fail)
 refine EndW.wk { n := _, env := [], obs := [(m, .box [.u (.sl (lets.map fun l => [.str l.name, .int .i64 l.body.op, .int .i64 l.body.n, .int .i64 l.body.unit, .str l.body.s, .sl (l.body.args.map Exp.row)])), .u y, .vec nx c.length]), (nx, .vec 44 3 R2)], next := nx + 1 } (Wk.ren ((fun i => if i = nx then q else i)) rfl (by first | (simp [hn]; done) | (intro i hi; rw [hn] at hi; constructor <;> (try simp) <;> (try (intro _)) <;> omega)) (by simp [zfK, St.lp, zaS, zaa, getK, zac, zad, D.under, D.le, D.ren, hne, hne2, hmq, Ne.symm hmq, hm1, hp] <;> (try (intros; simp_all; done)) <;> (try omega)) (by simp [wkR, St.lp, zaa, getK, zac, zad, obR, leU, zbe, zaF, Ob.under, D.under, D.le, D.ren, hne, hne2, hmq, Ne.symm hmq, hm1, hp] <;> (try (intros; simp_all; done)) <;> (try omega)) (by simp [hne, hne2, hmq, Ne.symm hmq, hm1, hp])) ?_
 (refine EndW.h Tryz.results111 ?_; simp)
theorem zoj (lets : List Let) (shs : List Bool) (c : Code) (m q nx : Nat) (hm : m < nx) (hq : q < nx) (hmq : m ≠ q) (hl : c.length <= 100000) : RetX Tryz.prog 110 [.ptr m 0] [(m, cOb lets shs q c), (q, kOb c)] nx
  fun r o n' => r = .val (.tup []) /\ o = [(m, cOb lets shs nx (zdl c)), (nx, kOb (zdl c))] /\ n' = nx + 1 := by
 have hne := nef hm;have hne2 := nef hq;have hm1 : m < nx + 1 := by omega
 have hp := zbk (zdl c);have hlc := zfh c ⟨11, 0, []⟩;have h1 := zfO lets shs c ⟨11, 0, []⟩ m q nx hm hq hmq hl;have h2 := zfO lets shs (zb8 c ⟨11, 0, []⟩) ⟨11, 0, []⟩ m nx (nx + 1) (by omega) (by omega) (by omega) (by split at hlc <;> omega);unfold zdl at hp ⊢;simp only [zaz] at h1 h2 ⊢;generalize zb8 c ⟨11, 0, []⟩ = c1 at *;generalize zb8 c1 ⟨11, 0, []⟩ = c2 at *;refine RetX.runW Tryz.func110 Tryz.ntmps110 rfl (by simp) fun Γ hn hpan => ?_
 repeat' (first
  | (refine zaf rfl ?_; simp [hne, hne2, hmq, Ne.symm hmq, Nat.add_assoc, del])
  | (refine CallP.okL (h1) (by first | (simp [hne, hne2, hmq, Ne.symm hmq, Nat.add_assoc, del, zaa, getK, zab, zac, zad, zah, del]; done) | fail) (by rfl) (by first | assumption | (simp; done) | fail) (by rfl) (by simp) ?_; (try simp [hne, hne2, hmq, Ne.symm hmq, Nat.add_assoc, del, zdt, del]))
  | (refine CallP.okL (h2) (by first | (simp [hne, hne2, hmq, Ne.symm hmq, Nat.add_assoc, del, zaa, getK, zab, zac, zad, zah, del]; done) | fail) (by rfl) (by first | assumption | (simp; done) | fail) (by rfl) (by simp) ?_; (try simp [hne, hne2, hmq, Ne.symm hmq, Nat.add_assoc, del, zdt, del]))
  | fail)
 refine EndW.wk { n := _, env := [], obs := [(m, cOb lets shs nx c2), (nx, kOb c2)], next := nx + 1 } (Wk.ren ((fun i => if i = nx then nx + 1 else i)) rfl (by first | (simp [hn]; done) | (intro i hi; rw [hn] at hi; constructor <;> (try simp) <;> (try (intro _)) <;> omega)) (by simp [zfK, St.lp, zaS, zaa, getK, zac, zad, D.under, D.le, D.ren, hne, hne2, hmq, Ne.symm hmq, hm1, hp, cOb, kOb] <;> (try (intros; simp_all; done)) <;> (try omega)) (by simp [wkR, St.lp, zaa, getK, zac, zad, obR, leU, zbe, zaF, Ob.under, D.under, D.le, D.ren, hne, hne2, hmq, Ne.symm hmq, hm1, hp, cOb, kOb] <;> (try (intros; simp_all; done)) <;> (try omega)) (by simp [hne, hne2, hmq, Ne.symm hmq, hm1, hp, cOb, kOb])) ?_
 (refine EndW.h Tryz.results110 ?_; simp)
theorem znR {lets shs m n e a b FA FB} (ho : e.op = 10) (hab : e.args = [a, b]) (hA : ExpX lets shs m n a FA) (cA : Cap FA) (pA : Pre FA) (hB : ExpX lets shs m n b FB) (cB : Cap FB) (pB : Pre FB) : zuh lets shs m n e (zbL FA (fun c => zdl (FB c)) (fun c => zb8 c ⟨0, 0, []⟩)) := by
 intro c q nx hm hq hmq hl;have hne := nef hm;have hne2 := nef hq;have hm1 : m < nx + 1 := by omega
 have hp := zbk ((zbL FA (fun c => zdl (FB c)) (fun c => zb8 c ⟨0, 0, []⟩)) c);unfold zbL at hp ⊢
 try simp only at hp ⊢
 have l1 := cA c hl;have w1 := (pA c).1;have a1 := hA c q (nx + 1) (by omega) (by omega) (by omega) hl;generalize FA c = k1 at *;have l2 := Cap.put ⟨13, 0, []⟩ k1 l1;have w2 := (zcy ⟨13, 0, []⟩ k1).1;have g2 := zea k1 ⟨13, 0, []⟩;simp only at l2;have a2 := zfO lets shs k1 ⟨13, 0, []⟩ m (nx + 1) (nx + 2) (by omega) (by omega) (by omega) (by omega);generalize zb8 k1 ⟨13, 0, []⟩ = k2 at *;have l3 := cB k2 l2;have w3 := (pB k2).1;have a3 := hB k2 (nx + 2) (nx + 3) (by omega) (by omega) (by omega) l2;generalize FB k2 = k3 at *;have l4 := Cap.truth k3 l3;have w4 := (Pre.truth k3).1;have a4 := zoj lets shs k3 m (nx + 3) (nx + 4) (by omega) (by omega) (by omega) (by omega);generalize zdl k3 = k4 at *;have l5 := Cap.put ⟨12, 0, []⟩ k4 l4;have w5 := (zcy ⟨12, 0, []⟩ k4).1;have g5 := zea k4 ⟨12, 0, []⟩;simp only at l5;have a5 := zfO lets shs k4 ⟨12, 0, []⟩ m (nx + 4) (nx + 5) (by omega) (by omega) (by omega) (by omega);generalize zb8 k4 ⟨12, 0, []⟩ = k5 at *;have l6 := zbA k5 (k2.length - 1);have a6 := ziM lets shs k5 (k2.length - 1) m (nx + 5) (nx + 6) (by omega) (by omega) (by omega) (by omega) (by omega);rw [show ((k2.length - 1 : Nat) : Int) = (k2.length : Int) - 1 by omega] at a6;generalize zdp k5 (k2.length - 1) = k6 at *;have l6 : k6.length <= 2001 := by omega
 have l7 := Cap.put ⟨0, 0, []⟩ k6 l6;have w7 := (zcy ⟨0, 0, []⟩ k6).1;have g7 := zea k6 ⟨0, 0, []⟩;simp only at l7;have a7 := zfO lets shs k6 ⟨0, 0, []⟩ m (nx + 6) (nx + 7) (by omega) (by omega) (by omega) (by omega);generalize zb8 k6 ⟨0, 0, []⟩ = k7 at *;have l8 := zbA k7 (k5.length - 1);have a8 := ziM lets shs k7 (k5.length - 1) m (nx + 7) (nx + 8) (by omega) (by omega) (by omega) (by omega) (by omega);rw [show ((k5.length - 1 : Nat) : Int) = (k5.length : Int) - 1 by omega] at a8;generalize zdp k7 (k5.length - 1) = k8 at *;have l8 : k8.length <= 2001 := by omega
 simp only [zcF, zaz] at a1 a2 a3 a4 a5 a6 a7 a8 ⊢;have hpp := hp;refine RetX.runW Tryz.func67 Tryz.ntmps67 rfl (by simp) fun Γ hn hpan => ?_
 repeat' (first
  | (refine zaf rfl ?_; simp [hne, hne2, hmq, Ne.symm hmq, Nat.add_assoc, del, ho, hab, a.row_eq, b.row_eq])
  | (refine CallP.okL (a1) (by first | (simp [hne, hne2, hmq, Ne.symm hmq, Nat.add_assoc, del, ho, hab, a.row_eq, b.row_eq, zaa, getK, zab, zac, zad, zah, del]; done) | fail) (by rfl) (by first | assumption | (simp; done) | fail) (by rfl) (by simp) ?_; (try simp [hne, hne2, hmq, Ne.symm hmq, Nat.add_assoc, del, ho, hab, a.row_eq, b.row_eq, zdt, del]))
  | (refine CallP.okL (a2) (by first | (simp [hne, hne2, hmq, Ne.symm hmq, Nat.add_assoc, del, ho, hab, a.row_eq, b.row_eq, zaa, getK, zab, zac, zad, zah, del]; done) | fail) (by rfl) (by first | assumption | (simp; done) | fail) (by rfl) (by simp) ?_; (try simp [hne, hne2, hmq, Ne.symm hmq, Nat.add_assoc, del, ho, hab, a.row_eq, b.row_eq, zdt, del]))
  | (refine CallP.okL (a3) (by first | (simp [hne, hne2, hmq, Ne.symm hmq, Nat.add_assoc, del, ho, hab, a.row_eq, b.row_eq, zaa, getK, zab, zac, zad, zah, del]; done) | fail) (by rfl) (by first | assumption | (simp; done) | fail) (by rfl) (by simp) ?_; (try simp [hne, hne2, hmq, Ne.symm hmq, Nat.add_assoc, del, ho, hab, a.row_eq, b.row_eq, zdt, del]))
  | (refine CallP.okL (a4) (by first | (simp [hne, hne2, hmq, Ne.symm hmq, Nat.add_assoc, del, ho, hab, a.row_eq, b.row_eq, zaa, getK, zab, zac, zad, zah, del]; done) | fail) (by rfl) (by first | assumption | (simp; done) | fail) (by rfl) (by simp) ?_; (try simp [hne, hne2, hmq, Ne.symm hmq, Nat.add_assoc, del, ho, hab, a.row_eq, b.row_eq, zdt, del]))
  | (refine CallP.okL (a5) (by first | (simp [hne, hne2, hmq, Ne.symm hmq, Nat.add_assoc, del, ho, hab, a.row_eq, b.row_eq, zaa, getK, zab, zac, zad, zah, del]; done) | fail) (by rfl) (by first | assumption | (simp; done) | fail) (by rfl) (by simp) ?_; (try simp [hne, hne2, hmq, Ne.symm hmq, Nat.add_assoc, del, ho, hab, a.row_eq, b.row_eq, zdt, del]))
  | (refine CallP.okL (a6) (by first | (simp [hne, hne2, hmq, Ne.symm hmq, Nat.add_assoc, del, ho, hab, a.row_eq, b.row_eq, zaa, getK, zab, zac, zad, zah, del]; done) | fail) (by rfl) (by first | assumption | (simp; done) | fail) (by rfl) (by simp) ?_; (try simp [hne, hne2, hmq, Ne.symm hmq, Nat.add_assoc, del, ho, hab, a.row_eq, b.row_eq, zdt, del]))
  | (refine CallP.okL (a7) (by first | (simp [hne, hne2, hmq, Ne.symm hmq, Nat.add_assoc, del, ho, hab, a.row_eq, b.row_eq, zaa, getK, zab, zac, zad, zah, del]; done) | fail) (by rfl) (by first | assumption | (simp; done) | fail) (by rfl) (by simp) ?_; (try simp [hne, hne2, hmq, Ne.symm hmq, Nat.add_assoc, del, ho, hab, a.row_eq, b.row_eq, zdt, del]))
  | (refine CallP.okL (a8) (by first | (simp [hne, hne2, hmq, Ne.symm hmq, Nat.add_assoc, del, ho, hab, a.row_eq, b.row_eq, zaa, getK, zab, zac, zad, zah, del]; done) | fail) (by rfl) (by first | assumption | (simp; done) | fail) (by rfl) (by simp) ?_; (try simp [hne, hne2, hmq, Ne.symm hmq, Nat.add_assoc, del, ho, hab, a.row_eq, b.row_eq, zdt, del]))
  | fail)
 refine EndW.wk { n := _, env := [], obs := [(m, cOb lets shs nx k8), (nx, kOb k8)], next := nx + 1 } (Wk.ren ((fun i => if i = nx then nx + 8 else i)) rfl (by first | (simp [hn]; done) | (intro i hi; rw [hn] at hi; constructor <;> (try simp) <;> (try (intro _)) <;> omega)) (by simp [zfK, St.lp, zaS, zaa, getK, zac, zad, D.under, D.le, D.ren, hne, hne2, hmq, Ne.symm hmq, hm1, hp, cOb, kOb, zaz] <;> (try (intros; simp_all; done)) <;> (try omega)) (by simp [wkR, St.lp, zaa, getK, zac, zad, obR, leU, zbe, zaF, Ob.under, D.under, D.le, D.ren, hne, hne2, hmq, Ne.symm hmq, hm1, hp, cOb, kOb, zaz] <;> (try (intros; simp_all; done)) <;> (try omega)) (by simp [hne, hne2, hmq, Ne.symm hmq, hm1, hp, cOb, kOb, zaz])) ?_
 (refine EndW.h Tryz.results67 ?_; simp)
theorem zpq {lets shs m n e a b FA FB} (ho : e.op = 11) (hab : e.args = [a, b]) (hA : ExpX lets shs m n a FA) (cA : Cap FA) (pA : Pre FA) (hB : ExpX lets shs m n b FB) (cB : Cap FB) (pB : Pre FB) : zuh lets shs m n e (zbL FA (fun c => zb8 c ⟨0, 1, []⟩) (fun c => zdl (FB c))) := by
 intro c q nx hm hq hmq hl;have hne := nef hm;have hne2 := nef hq;have hm1 : m < nx + 1 := by omega
 have hp := zbk ((zbL FA (fun c => zb8 c ⟨0, 1, []⟩) (fun c => zdl (FB c))) c);unfold zbL at hp ⊢
 try simp only at hp ⊢
 have l1 := cA c hl;have w1 := (pA c).1;have a1 := hA c q (nx + 1) (by omega) (by omega) (by omega) hl;generalize FA c = k1 at *;have l2 := Cap.put ⟨13, 0, []⟩ k1 l1;have w2 := (zcy ⟨13, 0, []⟩ k1).1;have g2 := zea k1 ⟨13, 0, []⟩;simp only at l2;have a2 := zfO lets shs k1 ⟨13, 0, []⟩ m (nx + 1) (nx + 2) (by omega) (by omega) (by omega) (by omega);generalize zb8 k1 ⟨13, 0, []⟩ = k2 at *;have l3 := Cap.put ⟨0, 1, []⟩ k2 l2;have w3 := (zcy ⟨0, 1, []⟩ k2).1;have g3 := zea k2 ⟨0, 1, []⟩;simp only at l3;have a3 := zfO lets shs k2 ⟨0, 1, []⟩ m (nx + 2) (nx + 3) (by omega) (by omega) (by omega) (by omega);generalize zb8 k2 ⟨0, 1, []⟩ = k3 at *;have l4 := Cap.put ⟨12, 0, []⟩ k3 l3;have w4 := (zcy ⟨12, 0, []⟩ k3).1;have g4 := zea k3 ⟨12, 0, []⟩;simp only at l4;have a4 := zfO lets shs k3 ⟨12, 0, []⟩ m (nx + 3) (nx + 4) (by omega) (by omega) (by omega) (by omega);generalize zb8 k3 ⟨12, 0, []⟩ = k4 at *;have l5 := zbA k4 (k2.length - 1);have a5 := ziM lets shs k4 (k2.length - 1) m (nx + 4) (nx + 5) (by omega) (by omega) (by omega) (by omega) (by omega);rw [show ((k2.length - 1 : Nat) : Int) = (k2.length : Int) - 1 by omega] at a5;generalize zdp k4 (k2.length - 1) = k5 at *;have l5 : k5.length <= 2001 := by omega
 have l6 := cB k5 l5;have w6 := (pB k5).1;have a6 := hB k5 (nx + 5) (nx + 6) (by omega) (by omega) (by omega) l5;generalize FB k5 = k6 at *;have l7 := Cap.truth k6 l6;have w7 := (Pre.truth k6).1;have a7 := zoj lets shs k6 m (nx + 6) (nx + 7) (by omega) (by omega) (by omega) (by omega);generalize zdl k6 = k7 at *;have l8 := zbA k7 (k4.length - 1);have a8 := ziM lets shs k7 (k4.length - 1) m (nx + 7) (nx + 8) (by omega) (by omega) (by omega) (by omega) (by omega);rw [show ((k4.length - 1 : Nat) : Int) = (k4.length : Int) - 1 by omega] at a8;generalize zdp k7 (k4.length - 1) = k8 at *;have l8 : k8.length <= 2001 := by omega
 simp only [zcF, zaz] at a1 a2 a3 a4 a5 a6 a7 a8 ⊢;have hpp := hp;refine RetX.runW Tryz.func67 Tryz.ntmps67 rfl (by simp) fun Γ hn hpan => ?_
 repeat' (first
  | (refine zaf rfl ?_; simp [hne, hne2, hmq, Ne.symm hmq, Nat.add_assoc, del, ho, hab, a.row_eq, b.row_eq])
  | (refine CallP.okL (a1) (by first | (simp [hne, hne2, hmq, Ne.symm hmq, Nat.add_assoc, del, ho, hab, a.row_eq, b.row_eq, zaa, getK, zab, zac, zad, zah, del]; done) | fail) (by rfl) (by first | assumption | (simp; done) | fail) (by rfl) (by simp) ?_; (try simp [hne, hne2, hmq, Ne.symm hmq, Nat.add_assoc, del, ho, hab, a.row_eq, b.row_eq, zdt, del]))
  | (refine CallP.okL (a2) (by first | (simp [hne, hne2, hmq, Ne.symm hmq, Nat.add_assoc, del, ho, hab, a.row_eq, b.row_eq, zaa, getK, zab, zac, zad, zah, del]; done) | fail) (by rfl) (by first | assumption | (simp; done) | fail) (by rfl) (by simp) ?_; (try simp [hne, hne2, hmq, Ne.symm hmq, Nat.add_assoc, del, ho, hab, a.row_eq, b.row_eq, zdt, del]))
  | (refine CallP.okL (a3) (by first | (simp [hne, hne2, hmq, Ne.symm hmq, Nat.add_assoc, del, ho, hab, a.row_eq, b.row_eq, zaa, getK, zab, zac, zad, zah, del]; done) | fail) (by rfl) (by first | assumption | (simp; done) | fail) (by rfl) (by simp) ?_; (try simp [hne, hne2, hmq, Ne.symm hmq, Nat.add_assoc, del, ho, hab, a.row_eq, b.row_eq, zdt, del]))
  | (refine CallP.okL (a4) (by first | (simp [hne, hne2, hmq, Ne.symm hmq, Nat.add_assoc, del, ho, hab, a.row_eq, b.row_eq, zaa, getK, zab, zac, zad, zah, del]; done) | fail) (by rfl) (by first | assumption | (simp; done) | fail) (by rfl) (by simp) ?_; (try simp [hne, hne2, hmq, Ne.symm hmq, Nat.add_assoc, del, ho, hab, a.row_eq, b.row_eq, zdt, del]))
  | (refine CallP.okL (a5) (by first | (simp [hne, hne2, hmq, Ne.symm hmq, Nat.add_assoc, del, ho, hab, a.row_eq, b.row_eq, zaa, getK, zab, zac, zad, zah, del]; done) | fail) (by rfl) (by first | assumption | (simp; done) | fail) (by rfl) (by simp) ?_; (try simp [hne, hne2, hmq, Ne.symm hmq, Nat.add_assoc, del, ho, hab, a.row_eq, b.row_eq, zdt, del]))
  | (refine CallP.okL (a6) (by first | (simp [hne, hne2, hmq, Ne.symm hmq, Nat.add_assoc, del, ho, hab, a.row_eq, b.row_eq, zaa, getK, zab, zac, zad, zah, del]; done) | fail) (by rfl) (by first | assumption | (simp; done) | fail) (by rfl) (by simp) ?_; (try simp [hne, hne2, hmq, Ne.symm hmq, Nat.add_assoc, del, ho, hab, a.row_eq, b.row_eq, zdt, del]))
  | (refine CallP.okL (a7) (by first | (simp [hne, hne2, hmq, Ne.symm hmq, Nat.add_assoc, del, ho, hab, a.row_eq, b.row_eq, zaa, getK, zab, zac, zad, zah, del]; done) | fail) (by rfl) (by first | assumption | (simp; done) | fail) (by rfl) (by simp) ?_; (try simp [hne, hne2, hmq, Ne.symm hmq, Nat.add_assoc, del, ho, hab, a.row_eq, b.row_eq, zdt, del]))
  | (refine CallP.okL (a8) (by first | (simp [hne, hne2, hmq, Ne.symm hmq, Nat.add_assoc, del, ho, hab, a.row_eq, b.row_eq, zaa, getK, zab, zac, zad, zah, del]; done) | fail) (by rfl) (by first | assumption | (simp; done) | fail) (by rfl) (by simp) ?_; (try simp [hne, hne2, hmq, Ne.symm hmq, Nat.add_assoc, del, ho, hab, a.row_eq, b.row_eq, zdt, del]))
  | fail)
 refine EndW.wk { n := _, env := [], obs := [(m, cOb lets shs nx k8), (nx, kOb k8)], next := nx + 1 } (Wk.ren ((fun i => if i = nx then nx + 8 else i)) rfl (by first | (simp [hn]; done) | (intro i hi; rw [hn] at hi; constructor <;> (try simp) <;> (try (intro _)) <;> omega)) (by simp [zfK, St.lp, zaS, zaa, getK, zac, zad, D.under, D.le, D.ren, hne, hne2, hmq, Ne.symm hmq, hm1, hp, cOb, kOb, zaz] <;> (try (intros; simp_all; done)) <;> (try omega)) (by simp [wkR, St.lp, zaa, getK, zac, zad, obR, leU, zbe, zaF, Ob.under, D.under, D.le, D.ren, hne, hne2, hmq, Ne.symm hmq, hm1, hp, cOb, kOb, zaz] <;> (try (intros; simp_all; done)) <;> (try omega)) (by simp [hne, hne2, hmq, Ne.symm hmq, hm1, hp, cOb, kOb, zaz])) ?_
 (refine EndW.h Tryz.results67 ?_; simp)
theorem zpr {lets shs m n e a b d FA FB FD} (ho : e.op = 13) (hab : e.args = [a, b, d]) (hA : ExpX lets shs m n a FA) (cA : Cap FA) (pA : Pre FA) (hB : ExpX lets shs m n b FB) (cB : Cap FB) (pB : Pre FB) (hD : ExpX lets shs m n d FD) (cD : Cap FD) (pD : Pre FD) : zuh lets shs m n e (zbL FA FB FD) := by
 intro c q nx hm hq hmq hl;have hne := nef hm;have hne2 := nef hq;have hm1 : m < nx + 1 := by omega
 have hp := zbk ((zbL FA FB FD) c);unfold zbL at hp ⊢
 try simp only at hp ⊢
 have l1 := cA c hl;have w1 := (pA c).1;have a1 := hA c q (nx + 1) (by omega) (by omega) (by omega) hl;generalize FA c = k1 at *;have l2 := Cap.put ⟨13, 0, []⟩ k1 l1;have w2 := (zcy ⟨13, 0, []⟩ k1).1;have g2 := zea k1 ⟨13, 0, []⟩;simp only at l2;have a2 := zfO lets shs k1 ⟨13, 0, []⟩ m (nx + 1) (nx + 2) (by omega) (by omega) (by omega) (by omega);generalize zb8 k1 ⟨13, 0, []⟩ = k2 at *;have l3 := cB k2 l2;have w3 := (pB k2).1;have a3 := hB k2 (nx + 2) (nx + 3) (by omega) (by omega) (by omega) l2;generalize FB k2 = k3 at *;have l4 := Cap.put ⟨12, 0, []⟩ k3 l3;have w4 := (zcy ⟨12, 0, []⟩ k3).1;have g4 := zea k3 ⟨12, 0, []⟩;simp only at l4;have a4 := zfO lets shs k3 ⟨12, 0, []⟩ m (nx + 3) (nx + 4) (by omega) (by omega) (by omega) (by omega);generalize zb8 k3 ⟨12, 0, []⟩ = k4 at *;have l5 := zbA k4 (k2.length - 1);have a5 := ziM lets shs k4 (k2.length - 1) m (nx + 4) (nx + 5) (by omega) (by omega) (by omega) (by omega) (by omega);rw [show ((k2.length - 1 : Nat) : Int) = (k2.length : Int) - 1 by omega] at a5;generalize zdp k4 (k2.length - 1) = k5 at *;have l5 : k5.length <= 2001 := by omega
 have l6 := cD k5 l5;have w6 := (pD k5).1;have a6 := hD k5 (nx + 5) (nx + 6) (by omega) (by omega) (by omega) l5;generalize FD k5 = k6 at *;have l7 := zbA k6 (k4.length - 1);have a7 := ziM lets shs k6 (k4.length - 1) m (nx + 6) (nx + 7) (by omega) (by omega) (by omega) (by omega) (by omega);rw [show ((k4.length - 1 : Nat) : Int) = (k4.length : Int) - 1 by omega] at a7;generalize zdp k6 (k4.length - 1) = k7 at *;have l7 : k7.length <= 2001 := by omega
 simp only [zcF, zaz] at a1 a2 a3 a4 a5 a6 a7 ⊢;have hpp := hp;refine RetX.runW Tryz.func67 Tryz.ntmps67 rfl (by simp) fun Γ hn hpan => ?_
 repeat' (first
  | (refine zaf rfl ?_; simp [hne, hne2, hmq, Ne.symm hmq, Nat.add_assoc, del, ho, hab, a.row_eq, b.row_eq, d.row_eq])
  | (refine CallP.okL (a1) (by first | (simp [hne, hne2, hmq, Ne.symm hmq, Nat.add_assoc, del, ho, hab, a.row_eq, b.row_eq, d.row_eq, zaa, getK, zab, zac, zad, zah, del]; done) | fail) (by rfl) (by first | assumption | (simp; done) | fail) (by rfl) (by simp) ?_; (try simp [hne, hne2, hmq, Ne.symm hmq, Nat.add_assoc, del, ho, hab, a.row_eq, b.row_eq, d.row_eq, zdt, del]))
  | (refine CallP.okL (a2) (by first | (simp [hne, hne2, hmq, Ne.symm hmq, Nat.add_assoc, del, ho, hab, a.row_eq, b.row_eq, d.row_eq, zaa, getK, zab, zac, zad, zah, del]; done) | fail) (by rfl) (by first | assumption | (simp; done) | fail) (by rfl) (by simp) ?_; (try simp [hne, hne2, hmq, Ne.symm hmq, Nat.add_assoc, del, ho, hab, a.row_eq, b.row_eq, d.row_eq, zdt, del]))
  | (refine CallP.okL (a3) (by first | (simp [hne, hne2, hmq, Ne.symm hmq, Nat.add_assoc, del, ho, hab, a.row_eq, b.row_eq, d.row_eq, zaa, getK, zab, zac, zad, zah, del]; done) | fail) (by rfl) (by first | assumption | (simp; done) | fail) (by rfl) (by simp) ?_; (try simp [hne, hne2, hmq, Ne.symm hmq, Nat.add_assoc, del, ho, hab, a.row_eq, b.row_eq, d.row_eq, zdt, del]))
  | (refine CallP.okL (a4) (by first | (simp [hne, hne2, hmq, Ne.symm hmq, Nat.add_assoc, del, ho, hab, a.row_eq, b.row_eq, d.row_eq, zaa, getK, zab, zac, zad, zah, del]; done) | fail) (by rfl) (by first | assumption | (simp; done) | fail) (by rfl) (by simp) ?_; (try simp [hne, hne2, hmq, Ne.symm hmq, Nat.add_assoc, del, ho, hab, a.row_eq, b.row_eq, d.row_eq, zdt, del]))
  | (refine CallP.okL (a5) (by first | (simp [hne, hne2, hmq, Ne.symm hmq, Nat.add_assoc, del, ho, hab, a.row_eq, b.row_eq, d.row_eq, zaa, getK, zab, zac, zad, zah, del]; done) | fail) (by rfl) (by first | assumption | (simp; done) | fail) (by rfl) (by simp) ?_; (try simp [hne, hne2, hmq, Ne.symm hmq, Nat.add_assoc, del, ho, hab, a.row_eq, b.row_eq, d.row_eq, zdt, del]))
  | (refine CallP.okL (a6) (by first | (simp [hne, hne2, hmq, Ne.symm hmq, Nat.add_assoc, del, ho, hab, a.row_eq, b.row_eq, d.row_eq, zaa, getK, zab, zac, zad, zah, del]; done) | fail) (by rfl) (by first | assumption | (simp; done) | fail) (by rfl) (by simp) ?_; (try simp [hne, hne2, hmq, Ne.symm hmq, Nat.add_assoc, del, ho, hab, a.row_eq, b.row_eq, d.row_eq, zdt, del]))
  | (refine CallP.okL (a7) (by first | (simp [hne, hne2, hmq, Ne.symm hmq, Nat.add_assoc, del, ho, hab, a.row_eq, b.row_eq, d.row_eq, zaa, getK, zab, zac, zad, zah, del]; done) | fail) (by rfl) (by first | assumption | (simp; done) | fail) (by rfl) (by simp) ?_; (try simp [hne, hne2, hmq, Ne.symm hmq, Nat.add_assoc, del, ho, hab, a.row_eq, b.row_eq, d.row_eq, zdt, del]))
  | fail)
 refine EndW.wk { n := _, env := [], obs := [(m, cOb lets shs nx k7), (nx, kOb k7)], next := nx + 1 } (Wk.ren ((fun i => if i = nx then nx + 7 else i)) rfl (by first | (simp [hn]; done) | (intro i hi; rw [hn] at hi; constructor <;> (try simp) <;> (try (intro _)) <;> omega)) (by simp [zfK, St.lp, zaS, zaa, getK, zac, zad, D.under, D.le, D.ren, hne, hne2, hmq, Ne.symm hmq, hm1, hp, cOb, kOb, zaz] <;> (try (intros; simp_all; done)) <;> (try omega)) (by simp [wkR, St.lp, zaa, getK, zac, zad, obR, leU, zbe, zaF, Ob.under, D.under, D.le, D.ren, hne, hne2, hmq, Ne.symm hmq, hm1, hp, cOb, kOb, zaz] <;> (try (intros; simp_all; done)) <;> (try omega)) (by simp [hne, hne2, hmq, Ne.symm hmq, hm1, hp, cOb, kOb, zaz])) ?_
 (refine EndW.h Tryz.results67 ?_; simp)
end Go.Proofs.YtkdhmbhbbciedaaGreatDoor
namespace Go.Proofs.YtkdhmbhbbciedaaGreatDoor
open Go Go.VL
def PR.bind {α β : Type} : PR α -> (α -> Nat -> PR β) -> PR β
 | .ok a p, f => f a p
 | .stop pos e, _ => .stop pos e
theorem PR.bind_ok {α β : Type} {a : α} {p : Nat} {f : α -> Nat -> PR β} : (PR.ok a p).bind f = f a p := rfl
theorem PR.zaR {α β : Type} {r : PR α} {f : α -> Nat -> PR β} {b : β} {q : Nat} (h : r.bind f = .ok b q) : ∃ a p, r = .ok a p /\ f a p = .ok b q := by
 cases r with
 | ok a p => exact ⟨a, p, rfl, h⟩
 | stop => cases h
theorem PPost.zeA {α : Type} {l i nx} {val : α -> D} {r : PR α} {a : α} {q : Nat} (h : r = .ok a q) {d : D} (hd : d = val a) {o : List (Nat × Ob)} (ho : o = [(i, pOb l q)]) : PPost l i nx val r (.val d) o nx := by
 subst h; subst hd; subst ho; exact ⟨rfl, rfl, rfl⟩
theorem PPost.zb1 {α : Type} {l i nx} {val : α -> D} {r : PR α} {pos e : Int} {q : Nat} (h : r = .stop pos e) : PPost l i nx val r (.pan (chP pos e)) [(i, pOb l q)] nx := by
 subst h; exact ⟨rfl, ⟨_, ⟨q, rfl⟩, rfl⟩, rfl⟩
structure Opr where
 text : List UInt8
 op : Int
 form : Int
def oprs : List Opr := [⟨[111, 114], 11, 1⟩, ⟨[97, 110, 100], 10, 2⟩, ⟨[61, 61], 9, 4⟩, ⟨[60], 8, 4⟩, ⟨[43], 2, 5⟩, ⟨[45], 3, 5⟩, ⟨[42], 4, 6⟩, ⟨[47], 5, 6⟩]
def ztC (l : List Tok) (p : Nat) : Option Opr := oprs.find? fun o => isB l p o.text
def zm2 (l : List Tok) (p : Nat) : PR Int :=
 if isB l p [99, 111, 105, 110, 115] = true then .ok 3 (p + 1)
 else if isB l p [100, 97, 121, 115] = true then .ok 2 (p + 1)
 else if isB l p [112, 101, 114] = true then (zdv l (p + 1) [[109, 105, 108, 108, 101]]).bind fun _ q => .ok 4 q
 else .ok 1 p
mutual
def ze9 (l : List Tok) : Nat -> Nat -> Int -> PR Exp
 | 0, _, _ => .stop 0 0
 | f + 1, p, form => (zbX l f p form).bind fun e q => zfq l f form e.1 e.2 q
def zfq (l : List Tok) : Nat -> Int -> Exp -> Int -> Nat -> PR Exp
 | 0, _, _, _, _ => .stop 0 0
 | f + 1, form, e, own, q => match ztC l q with
  | none => .ok e q
  | some x => if x.form < form \/ own < x.form \/ (own = 4 /\ x.form = 4) then .ok e q
   else (ze9 l f (q + 1) (x.form + 1)).bind fun e2 r => zfq l f form (.mk x.op 0 0 [] [e, e2]) x.form r
def zbX (l : List Tok) : Nat -> Nat -> Int -> PR (Exp × Int)
 | 0, _, _ => .stop 0 0
 | f + 1, p, form =>
  if form = 0 /\ isB l p [105, 102] = true then
   (ze9 l f (p + 1) 0).bind fun a q1 => (zdv l q1 [[116, 104, 101, 110]]).bind fun _ q2 => (ze9 l f q2 0).bind fun b q3 =>
   (zdv l q3 [[101, 108, 115, 101]]).bind fun _ q4 => (ze9 l f q4 0).bind fun c q5 => .ok (.mk 13 0 0 [] [a, b, c], 0) q5
  else if form <= 3 /\ isB l p [110, 111, 116] = true then (ze9 l f (p + 1) 3).bind fun a q => .ok (.mk 12 0 0 [] [a], 3) q
  else (zbc l f p).bind fun e q => .ok (e, 7) q
def zbc (l : List Tok) : Nat -> Nat -> PR Exp
 | 0, _ => .stop 0 0
 | f + 1, p => match l[p]? with
  | none => .stop 0 0
  | some t =>
   if t.kind = 2 then (zm2 l (p + 1)).bind fun u q => .ok (.mk 0 t.n u [] []) q
   else if isB l p [116, 114, 117, 101] = true then .ok (.mk 0 1 0 [] []) (p + 1)
   else if isB l p [102, 97, 108, 115, 101] = true then .ok (.mk 0 0 0 [] []) (p + 1)
   else if isB l p [109, 105, 110] = true \/ isB l p [109, 97, 120] = true then
    (zdv l (p + 1) [[40]]).bind fun _ q1 => (ze9 l f q1 0).bind fun a q2 => (zdv l q2 [[44]]).bind fun _ q3 => (ze9 l f q3 0).bind fun b q4 =>
    (zdv l q4 [[41]]).bind fun _ q5 => .ok (.mk (if isB l p [109, 97, 120] = true then 7 else 6) 0 0 [] [a, b]) q5
   else if isB l p [40] = true then (ze9 l f (p + 1) 0).bind fun e q1 => (zdv l q1 [[41]]).bind fun _ q2 => .ok e q2
   else if t.kind = 1 /\ zgP t.text = true then .ok (.mk 1 0 0 t.text []) (p + 1)
   else .stop t.pos 12
end
theorem zcr {l : List Tok} (hl : TokOK l) : ∀ (ws : List (List UInt8)) {p q : Nat}, zdv l p ws = .ok () q -> p < l.length -> p <= q /\ q < l.length
 | [], p, q, h, hp => by rw [zdv] at h; cases h; exact ⟨Nat.le_refl _, hp⟩
 | w :: ws, p, q, h, hp => by
  rw [zdv] at h;split at h
  ·rename_i hb;have := zcr hl ws h (zcA hl hb);exact ⟨by omega, this.2⟩
  ·cases h
theorem zp5 {l : List Tok} (hl : TokOK l) {p q : Nat} {u : Int} (h : zm2 l p = .ok u q) (hp : p < l.length) : p <= q /\ q < l.length := by
 unfold zm2 at h;split at h
 ·rename_i hb; cases h; exact ⟨by omega, zcA hl hb⟩
 ·split at h
  ·rename_i hb; cases h; exact ⟨by omega, zcA hl hb⟩
  ·split at h
   ·rename_i hb;obtain ⟨a, r, h1, h2⟩ := PR.zaR h;cases h2;have := zcr hl _ h1 (zcA hl hb);exact ⟨by omega, this.2⟩
   ·cases h; exact ⟨by omega, hp⟩
theorem zdn {l : List Tok} (hl : TokOK l) : ∀ (f : Nat),
  (∀ p form e q, ze9 l f p form = .ok e q -> p < l.length -> p <= q /\ q < l.length) /\
  (∀ form e own p e' q, zfq l f form e own p = .ok e' q -> p < l.length -> p <= q /\ q < l.length) /\
  (∀ p form e q, zbX l f p form = .ok e q -> p < l.length -> p <= q /\ q < l.length) /\
  (∀ p e q, zbc l f p = .ok e q -> p < l.length -> p <= q /\ q < l.length)
 | 0 => ⟨fun _ _ _ _ h => by simp [ze9] at h, fun _ _ _ _ _ _ h => by simp [zfq] at h, fun _ _ _ _ h => by simp [zbX] at h, fun _ _ _ h => by simp [zbc] at h⟩
 | f + 1 => by
  obtain ⟨he, hlo, hpr, hpm⟩ := zdn hl f;refine ⟨fun p form e q h hp => ?_, fun form e own p e' q h hp => ?_, fun p form e q h hp => ?_, fun p e q h hp => ?_⟩
  ·rw [ze9] at h;obtain ⟨a, r, h1, h2⟩ := PR.zaR h;have g1 := hpr _ _ _ _ h1 hp;have g2 := hlo _ _ _ _ _ _ h2 g1.2;exact ⟨by omega, g2.2⟩
  ·rw [zfq] at h;split at h
   ·cases h; exact ⟨by omega, hp⟩
   ·rename_i x hx;have hb := List.find?_some hx;have hp2 := zcA hl hb;split at h
    ·cases h; exact ⟨by omega, hp⟩
    ·obtain ⟨a, r, h1, h2⟩ := PR.zaR h;have g1 := he _ _ _ _ h1 hp2;have g2 := hlo _ _ _ _ _ _ h2 g1.2;exact ⟨by omega, g2.2⟩
  ·rw [zbX] at h;split at h
   ·rename_i hb;have hp2 := zcA hl hb.2;obtain ⟨a, r, h1, h⟩ := PR.zaR h;have g1 := he _ _ _ _ h1 hp2;obtain ⟨_, r2, h2, h⟩ := PR.zaR h;have g2 := zcr hl _ h2 g1.2;obtain ⟨a, r3, h3, h⟩ := PR.zaR h;have g3 := he _ _ _ _ h3 g2.2;obtain ⟨_, r4, h4, h⟩ := PR.zaR h;have g4 := zcr hl _ h4 g3.2;obtain ⟨a, r5, h5, h⟩ := PR.zaR h;have g5 := he _ _ _ _ h5 g4.2;cases h;exact ⟨by omega, g5.2⟩
   ·split at h
    ·rename_i hb;have hp2 := zcA hl hb.2;obtain ⟨a, r, h1, h⟩ := PR.zaR h;have g1 := he _ _ _ _ h1 hp2;cases h;exact ⟨by omega, g1.2⟩
    ·obtain ⟨a, r, h1, h⟩ := PR.zaR h;have g1 := hpm _ _ _ h1 hp;cases h;exact g1
  ·rw [zbc] at h;split at h
   ·cases h
   ·rename_i t ht;split at h
    ·rename_i hk;have hp2 := hl.fin p t ht (by omega);obtain ⟨a, r, h1, h⟩ := PR.zaR h;have g1 := zp5 hl h1 hp2;cases h;exact ⟨by omega, g1.2⟩
    split at h
    ·rename_i hb; cases h; exact ⟨by omega, zcA hl hb⟩
    split at h
    ·rename_i hb; cases h; exact ⟨by omega, zcA hl hb⟩
    split at h
    ·rename_i hb;have hp2 : p + 1 < l.length := hb.elim (zcA hl) (zcA hl);obtain ⟨_, r2, h2, h⟩ := PR.zaR h;have g2 := zcr hl _ h2 hp2;obtain ⟨a, r3, h3, h⟩ := PR.zaR h;have g3 := he _ _ _ _ h3 g2.2;obtain ⟨_, r4, h4, h⟩ := PR.zaR h;have g4 := zcr hl _ h4 g3.2;obtain ⟨a, r5, h5, h⟩ := PR.zaR h;have g5 := he _ _ _ _ h5 g4.2;obtain ⟨_, r6, h6, h⟩ := PR.zaR h;have g6 := zcr hl _ h6 g5.2;cases h;exact ⟨by omega, g6.2⟩
    split at h
    ·rename_i hb;have hp2 := zcA hl hb;obtain ⟨a, r3, h3, h⟩ := PR.zaR h;have g3 := he _ _ _ _ h3 hp2;obtain ⟨_, r4, h4, h⟩ := PR.zaR h;have g4 := zcr hl _ h4 g3.2;cases h;exact ⟨by omega, g4.2⟩
    split at h
    ·rename_i hk;cases h;exact ⟨by omega, hl.fin p t ht (by omega)⟩
    ·cases h
end Go.Proofs.YtkdhmbhbbciedaaGreatDoor
namespace Go.Proofs.YtkdhmbhbbciedaaGreatDoor
open Go Go.VL
abbrev W8 := List UInt8
def znz : W8 -> Int
 | [] => 0
 | c :: _ => if zdq c = true then 1 else if za9 c = true then 2 else 3
theorem zqH {w : W8} (h : w ≠ []) : znz w ≠ 0 := by
 cases w with
 | nil => exact absurd rfl h
 | cons c w => rw [znz]; split <;> (try split) <;> decide
def zun (w : W8) : Int := if znz w = 2 then (zgh w).getD 0 else 0
def Reads (l : List Tok) (p : Nat) (ws : List W8) : Prop := ∀ i w, ws[i]? = some w -> w ≠ [] /\ ∃ t, l[p + i]? = some t /\ t.text = w /\ t.kind = znz w /\ t.n = zun w
theorem Reads.left {l p} {a b : List W8} (h : Reads l p (a ++ b)) : Reads l p a := fun i w hi => h i w (by rw [List.getElem?_append_left (List.getElem?_eq_some_iff.1 hi).1]; exact hi)
theorem Reads.right {l p} {a b : List W8} (h : Reads l p (a ++ b)) : Reads l (p + a.length) b := fun i w hi => by
 have := h (a.length + i) w (by rw [List.getElem?_append_right (by omega), Nat.add_sub_cancel_left]; exact hi)
 rwa [<- Nat.add_assoc] at this
theorem Reads.head {l p} {w : W8} {b : List W8} (h : Reads l p (w :: b)) : w ≠ [] /\ ∃ t, l[p]? = some t /\ t.text = w /\ t.kind = znz w /\ t.n = zun w := h 0 w rfl
theorem Reads.tail {l p} {w : W8} {b : List W8} (h : Reads l p (w :: b)) : Reads l (p + 1) b := Reads.right (a := [w]) h
theorem Reads.isB {l p} {w : W8} {b : List W8} (h : Reads l p (w :: b)) (v : W8) : isB l p v = decide (w = v) := by
 obtain ⟨hw, t, ht, h1, h2, h3⟩ := h.head;have := zqH hw;simp [Go.Proofs.YtkdhmbhbbciedaaGreatDoor.isB, ht, h1, h2, this]
theorem Reads.want {l p} {w : W8} {b : List W8} (h : Reads l p (w :: b)) : zdv l p [w] = .ok () (p + 1) := by
 rw [zdv, if_pos (by rw [h.isB]; simp), zdv]
def Ev {α : Type} (g : Nat -> PR α) (r : PR α) : Prop := ∃ f0, ∀ f, f0 <= f -> g f = r
theorem Ev.succ {α : Type} {g : Nat -> PR α} {r : PR α} (h : Ev (fun f => g (f + 1)) r) : Ev g r := by
 obtain ⟨f0, h⟩ := h;refine ⟨f0 + 1, fun f hf => ?_⟩;obtain ⟨f, rfl⟩ : ∃ k, f = k + 1 := ⟨f - 1, by omega⟩;exact h f (by omega)
theorem Ev.const {α : Type} {r : PR α} : Ev (fun _ => r) r := ⟨0, fun _ _ => rfl⟩
theorem Ev.of {α : Type} {g : Nat -> PR α} {r : PR α} (h : ∀ f, g f = r) : Ev g r := ⟨0, fun f _ => h f⟩
theorem Ev.bind {α β : Type} {g : Nat -> PR α} {a : α} {q : Nat} {F : Nat -> α -> Nat -> PR β} {r : PR β} (h : Ev g (.ok a q)) (h2 : Ev (fun f => F f a q) r) : Ev (fun f => (g f).bind (F f)) r := by
 obtain ⟨f0, h⟩ := h;obtain ⟨f1, h2⟩ := h2;refine ⟨max f0 f1, fun f hf => ?_⟩;show (g f).bind (F f) = r;rw [h f (by omega), PR.bind_ok];exact h2 f (by omega)
end Go.Proofs.YtkdhmbhbbciedaaGreatDoor
namespace Go.Proofs.YtkdhmbhbbciedaaGreatDoor
open Go Go.VL
end Go.Proofs.YtkdhmbhbbciedaaGreatDoor
namespace Go.Proofs.YtkdhmbhbbciedaaGreatDoor
open Go Go.VL
theorem zgL : ∀ n, Lib.decDigits n ≠ [] := fun n => by
 rw [Lib.decDigits]; split <;> simp
theorem zd5 (n : Nat) : ∀ c ∈ Lib.decDigits n, za9 c = true := by
 induction n using Nat.strongRecOn with
 | _ n ih =>
  intro c hc;have hd : ∀ k, k < 10 -> za9 (UInt8.ofNat (48 + k)) = true := by decide
  rw [Lib.decDigits] at hc;split at hc
  ·rename_i h;simp only [List.mem_singleton] at hc;subst hc;exact hd n h
  ·rename_i h;rw [List.mem_append, List.mem_singleton] at hc;rcases hc with hc | rfl
   ·exact ih _ (by omega) c hc
   ·exact hd _ (by omega)
theorem zjJ (n : Nat) : zbB (Lib.decDigits n) = n := by
 induction n using Nat.strongRecOn with
 | _ n ih =>
  have hd : ∀ k, k < 10 -> ((UInt8.ofNat (48 + k)).toNat : Int) - 48 = k := by decide
  rw [Lib.decDigits];split
  ·rename_i h;simpa [zbB] using hd n h
  ·rename_i h;rw [zed, ih _ (by omega), hd _ (by omega)];omega
theorem zjK (n : Nat) : ∀ k, n < 10 ^ (k + 1) -> (Lib.decDigits n).length <= k + 1 := by
 induction n using Nat.strongRecOn with
 | _ n ih =>
  intro k hk;rw [Lib.decDigits];split
  ·simp
  ·rename_i h;obtain ⟨k, rfl⟩ : ∃ j, k = j + 1 := ⟨k - 1, by cases k with | zero => simp at hk; omega | succ k => rfl⟩;have := ih (n / 10) (by omega) k (by rw [Nat.pow_succ] at hk; omega);simp;omega
end Go.Proofs.YtkdhmbhbbciedaaGreatDoor
namespace Go.Proofs.YtkdhmbhbbciedaaGreatDoor
open Go Go.VL
end Go.Proofs.YtkdhmbhbbciedaaGreatDoor
namespace Go.Proofs.YtkdhmbhbbciedaaGreatDoor
open Go Go.VL
end Go.Proofs.YtkdhmbhbbciedaaGreatDoor
namespace Go.Proofs.YtkdhmbhbbciedaaGreatDoor
open Go Go.VL
end Go.Proofs.YtkdhmbhbbciedaaGreatDoor
namespace Go.Proofs.YtkdhmbhbbciedaaGreatDoor
open Go Go.VL
def zuR (r : W8) : Prop := ∀ c t, r = c :: t -> zcG c = true
structure GoodW (w : W8) : Prop where
 next : ∀ r, zuR r -> zh9 (w ++ r) = .ok ⟨znz w, w, zun w, 0⟩
 ne : w ≠ []
 head : ∀ c t, w = c :: t -> zcG c = false
def Spaced : List (W8 × W8) -> Prop
 | [] => True
 | [x] => GoodW x.1 /\ ∀ c ∈ x.2, zcG c = true
 | x :: y :: l => GoodW x.1 /\ (∀ c ∈ x.2, zcG c = true) /\ x.2 ≠ [] /\ Spaced (y :: l)
theorem Spaced.good {x : W8 × W8} {l : List (W8 × W8)} (h : Spaced (x :: l)) : GoodW x.1 /\ (∀ c ∈ x.2, zcG c = true) /\ (l ≠ [] -> x.2 ≠ []) /\ Spaced l := by
 cases l with
 | nil => exact ⟨h.1, h.2, fun h => absurd rfl h, trivial⟩
 | cons y l => exact ⟨h.1, h.2.1, fun _ => h.2.2.1, h.2.2.2⟩
end Go.Proofs.YtkdhmbhbbciedaaGreatDoor
namespace Go.Proofs.YtkdhmbhbbciedaaGreatDoor
open Go Go.VL
theorem PR.zcX {α β : Type} {r : PR α} {F G : α -> Nat -> PR β} (h : ∀ a q, r = .ok a q -> F a q = G a q) : r.bind F = r.bind G := by
 cases r with
 | ok a q => exact h a q rfl
 | stop => rfl
theorem zmI {l : List Tok} (hl : TokOK l) : ∀ (f : Nat),
  (∀ p form, p < l.length -> 4 * (l.length - p) + 3 <= f -> ze9 l (f + 1) p form = ze9 l f p form) /\
  (∀ p form e own, p < l.length -> 4 * (l.length - p) + 2 <= f -> zfq l (f + 1) form e own p = zfq l f form e own p) /\
  (∀ p form, p < l.length -> 4 * (l.length - p) + 2 <= f -> zbX l (f + 1) p form = zbX l f p form) /\
  (∀ p, p < l.length -> 4 * (l.length - p) + 1 <= f -> zbc l (f + 1) p = zbc l f p)
 | 0 => ⟨fun _ _ _ h => by omega, fun _ _ _ _ _ h => by omega, fun _ _ _ h => by omega, fun _ _ h => by omega⟩
 | f + 1 => by
  obtain ⟨he, hlo, hpr, hpm⟩ := zmI hl f;obtain ⟨le, llo, lpr, lpm⟩ := zdn hl f;refine ⟨fun p form hp hf => ?_, fun p form e own hp hf => ?_, fun p form hp hf => ?_, fun p hp hf => ?_⟩
  ·simp only [ze9];rw [hpr p form hp (by omega)];refine PR.zcX fun a q hq => ?_;have g := lpr _ _ _ _ hq hp;exact hlo _ _ _ _ g.2 (by omega)
  ·rw [zfq, zfq];split
   ·rfl
   ·rename_i x hx;have hb := List.find?_some hx;have hp2 := zcA hl hb;split
    ·rfl
    ·rw [he (p + 1) _ hp2 (by omega)];refine PR.zcX fun a q hq => ?_;have g := le _ _ _ _ hq hp2;exact hlo _ _ _ _ g.2 (by omega)
  ·simp only [zbX];split
   ·rename_i hb;have hp2 := zcA hl hb.2;rw [he (p + 1) _ hp2 (by omega)];refine PR.zcX fun a q1 hq1 => ?_;have g1 := le _ _ _ _ hq1 hp2;refine PR.zcX fun _ q2 hq2 => ?_;have g2 := zcr hl _ hq2 g1.2;rw [he q2 _ g2.2 (by omega)];refine PR.zcX fun b q3 hq3 => ?_;have g3 := le _ _ _ _ hq3 g2.2;refine PR.zcX fun _ q4 hq4 => ?_;have g4 := zcr hl _ hq4 g3.2;rw [he q4 _ g4.2 (by omega)]
   ·split
    ·rename_i hb;rw [he (p + 1) _ (zcA hl hb.2) (by omega)]
    ·rw [hpm p hp (by omega)]
  ·simp only [zbc];split
   ·rfl
   ·split
    ·rfl
    ·split
     ·rfl
     ·split
      ·rfl
      ·split
       ·rename_i hb;have hp2 : p + 1 < l.length := hb.elim (zcA hl) (zcA hl);refine PR.zcX fun _ q1 hq1 => ?_;have g1 := zcr hl _ hq1 hp2;rw [he q1 _ g1.2 (by omega)];refine PR.zcX fun a q2 hq2 => ?_;have g2 := le _ _ _ _ hq2 g1.2;refine PR.zcX fun _ q3 hq3 => ?_;have g3 := zcr hl _ hq3 g2.2;rw [he q3 _ g3.2 (by omega)]
       ·split
        ·rename_i hb;rw [he (p + 1) _ (zcA hl hb) (by omega)]
        ·rfl
theorem zkR {l : List Tok} (hl : TokOK l) {p f : Nat} {form : Int} (hp : p < l.length) (hf : 4 * (l.length - p) + 3 <= f) : ∀ g, ze9 l (f + g) p form = ze9 l f p form
 | 0 => rfl
 | g + 1 => by rw [<- Nat.add_assoc, (zmI hl (f + g)).1 p form hp (by omega), zkR hl hp hf g]
theorem Ev.fuel {l : List Tok} (hl : TokOK l) {p f : Nat} {form : Int} {r : PR Exp} (h : Ev (fun f => ze9 l f p form) r) (hp : p < l.length) (hf : 4 * (l.length - p) + 3 <= f) : ze9 l f p form = r := by
 obtain ⟨f0, h⟩ := h;rw [<- zkR hl hp hf f0];exact h (f + f0) (by omega)
end Go.Proofs.YtkdhmbhbbciedaaGreatDoor
namespace Go.Proofs.YtkdhmbhbbciedaaGreatDoor
open Go Go.VL
def AllGood (ws : List W8) : Prop := ∀ w ∈ ws, GoodW w
theorem AllGood.nil : AllGood [] := fun _ h => by cases h
theorem AllGood.cons {w : W8} {ws : List W8} (h : GoodW w) (h2 : AllGood ws) : AllGood (w :: ws) := fun x hx => by
 rcases List.mem_cons.1 hx with rfl | hx
 ·exact h
 ·exact h2 x hx
theorem AllGood.app {a b : List W8} (h : AllGood a) (h2 : AllGood b) : AllGood (a ++ b) := fun x hx => by
 rcases List.mem_append.1 hx with hx | hx
 ·exact h x hx
 ·exact h2 x hx
end Go.Proofs.YtkdhmbhbbciedaaGreatDoor
namespace Go.Proofs.YtkdhmbhbbciedaaGreatDoor
open Go Go.VL
end Go.Proofs.YtkdhmbhbbciedaaGreatDoor
namespace Go.Proofs.YtkdhmbhbbciedaaGreatDoor
open Go Go.VL
theorem ziy {l : Code} (hr : zct l = true) {i : Nat} {x : Ins} (hx : l[i]? = some x) : 0 <= x.op /\ x.op < 15 /\ -1099511627776 <= x.a /\ x.a <= 1099511627776 /\ x.s.length <= 1000 := by
 simp only [zct, Bool.and_eq_true, decide_eq_true_eq] at hr;have h := zfY hr.1.2 hx;have hl := hr.1.1.2;unfold zdM at h;split at h
 ·simp at h; rw [h.1.1]; simp; omega
 split at h
 ·rename_i h1;simp at h;have h3 : x.s.length <= 20 := by
   have h := h.2;simp only [zgP, Bool.and_eq_true] at h;have h := h.1;generalize x.s = s at *;cases s with
   | nil => simp
   | cons c r =>
    simp only [zh4, Bool.and_eq_true, decide_eq_true_eq] at h;exact h.1.2
  have h4 := h.1;rw [h1, h4];omega
 split at h
 ·simp at h; rw [h.1.1]; simp; omega
 ·simp at h; rw [h.1.1.1]; simp; omega
theorem zmu (x : Ins) (h0 : 0 <= x.op /\ x.op < 15 /\ -1099511627776 <= x.a /\ x.a <= 1099511627776 /\ x.s.length <= 1000) : (ze5 x).length <= 2000 := by
 have hil := Lib.itoa_length_le x.a (by omega) (by omega);have hwl2 : ∀ w ∈ wordsL, w.length <= 5 := by decide
 have hu : wordsL[x.op.toNat]? = some (zdQ x.op) := by
  rw [zdQ, List.getD, List.getElem?_eq_getElem (by have : wordsL.length = 15 := rfl; omega)]; rfl
 have := hwl2 _ (List.mem_of_getElem? hu);unfold ze5;split
 ·simp; omega
 split
 ·simp; omega
 ·simp; omega
theorem zkH {l : Code} {i : Nat} {x : Ins} (h : l[i]? = some x) : zdd (l.take (i + 1)) = zdd (l.take i) ++ ze5 x := by
 obtain ⟨hi, rfl⟩ := List.getElem?_eq_some_iff.1 h;rw [List.take_succ_eq_append_getElem hi, zdd, List.map_append, List.flatten_append];simp [zdd]
theorem zjt {l : Code} (hr : zct l = true) : ∀ i, i <= l.length -> (zdd (l.take i)).length <= i * 2000
 | 0, _ => by simp [zdd]
 | i + 1, h => by
  have hx : l[i]? = some l[i] := List.getElem?_eq_getElem (by omega);rw [zkH hx, List.length_append];have := zjt hr i (by omega);have := zmu _ (ziy hr hx);omega
def zlI (T : List UInt8) (i : Nat) : List (Nat × Ob) := if i = 0 then [(0, .nw 88)] else [(0, .box [.ptr 0 0, .vec 1 T.length]), (1, .vec u8T 1 (zdP T))]
end Go.Proofs.YtkdhmbhbbciedaaGreatDoor
namespace Go.Proofs.YtkdhmbhbbciedaaGreatDoor
open Go Go.VL
def zgM (c : UInt8) : W8 -> Option (W8 × W8)
 | [] => none
 | x :: r => if x = c then some ([], r) else (zgM c r).map fun p => (x :: p.1, p.2)
theorem zg4 {c : UInt8} : ∀ {s p q : W8}, zgM c s = some (p, q) -> s = p ++ c :: q /\ c ∉ p
 | [], p, q, h => by simp [zgM] at h
 | x :: r, p, q, h => by
  unfold zgM at h;split at h
  ·rename_i e;simp at h;obtain ⟨rfl, rfl⟩ := h;simp [e]
  ·rename_i e;cases hr : zgM c r with
   | none => rw [hr] at h; simp at h
   | some pq =>
    obtain ⟨p', q'⟩ := pq;rw [hr] at h;simp at h;obtain ⟨rfl, rfl⟩ := h;obtain ⟨h1, h2⟩ := zg4 hr;exact ⟨by rw [h1]; rfl, by simp [h2, Ne.symm e]⟩
theorem zk1 {c : UInt8} : ∀ {p : W8} (q : W8), c ∉ p -> zgM c (p ++ c :: q) = some (p, q)
 | [], q, _ => by simp [zgM]
 | x :: p, q, h => by
  simp at h;rw [List.cons_append, zgM, if_neg (Ne.symm h.1), zk1 q h.2];rfl
theorem zlT {c : UInt8} : ∀ {s : W8}, c ∉ s -> zgM c s = none
 | [], _ => rfl
 | x :: r, h => by
  simp at h;rw [zgM, if_neg (Ne.symm h.1), zlT h.2];rfl
theorem zhG {c : UInt8} : ∀ (s : W8), Lib.indexByte s c = match zgM c s with | some p => (p.1.length : Int) | none => -1
 | [] => rfl
 | x :: r => by
  have ih := zhG (c := c) r;unfold zgM Lib.indexByte;by_cases e : x = c
  ·simp [e]
  ·rw [if_neg e, ih];have : (x == c) = false := by simpa using e
   rw [this];cases zgM c r with
   | none => simp
   | some p => simp
theorem zsB {c : UInt8} {s p q : W8} (h : zgM c s = some (p, q)) : q.length < s.length := by
 rw [(zg4 h).1]; simp; omega
def zbF (c : UInt8) : W8 -> List W8
 | [] => [[]]
 | x :: r => if x = c then [] :: zbF c r else match zbF c r with | [] => [[x]] | p :: ps => (x :: p) :: ps
theorem zho {c : UInt8} : ∀ s : W8, zbF c s ≠ []
 | [] => by simp [zbF]
 | x :: r => by
  unfold zbF;split
  ·simp
  ·split <;> simp
theorem zdU {c : UInt8} : ∀ s : W8, zbF c s = match zgM c s with | some p => p.1 :: zbF c p.2 | none => [s]
 | [] => rfl
 | x :: r => by
  have ih := zdU (c := c) r;rw [zbF, zgM];by_cases e : x = c
  ·simp [e]
  ·rw [if_neg e, if_neg e, ih];cases zgM c r <;> simp
theorem ziC {c : UInt8} : ∀ s : W8, ∀ t ∈ zbF c s, t.length <= s.length
 | [], t, h => by simp [zbF] at h; simp [h]
 | x :: r, t, h => by
  have ih := ziC (c := c) r;unfold zbF at h;split at h
  ·rcases List.mem_cons.1 h with rfl | h
   ·simp
   ·have := ih t h; simp; omega
  ·split at h
   ·simp at h; subst h; simp
   ·rename_i p ps hp;rcases List.mem_cons.1 h with rfl | h
    ·have := ih p (by rw [hp]; simp); simp; omega
    ·have := ih t (by rw [hp]; simp [h]); simp; omega
theorem ziB {c : UInt8} : ∀ s : W8, (zbF c s).length <= s.length + 1
 | [] => by simp [zbF]
 | x :: r => by
  have ih := ziB (c := c) r;unfold zbF;split
  ·simp; omega
  ·split
   ·simp
   ·rename_i p ps hp;rw [hp] at ih;simp at ih ⊢;omega
def zft (s : W8) : W8 := if s.getLast? = some 10 then s.dropLast else s
theorem zqb (t : W8) : zft (t ++ [10]) = t := by simp [zft]
theorem zp9 (s : W8) : (zft s).length <= s.length := by unfold zft; split <;> simp
def zk9 (s : W8) : Int := match Lib.atoiAll s with | .ok v => v | .range => Lib.atoiSat s | _ => 0
def zlK (t : W8) : Ins :=
 let w := match zgM 32 t with | some p => p.1 | none => t
 let r := match zgM 32 t with | some p => p.2 | none => []
 if zjx wordsL w 0 = 1 then ⟨1, 0, r⟩ else ⟨zjx wordsL w 0, zk9 r, []⟩
def zdO (s : W8) : Code := (zbF 10 (zft s)).map zlK
def zjh (s : W8) : Code × Int := if zct (zdO s) = true /\ zdd (zdO s) = s then (zdO s, 0) else ([], 2)
theorem zgK : ∀ (s : W8) (acc : Nat), (∀ c ∈ s, za9 c = true) -> ((acc + 1) * 10 ^ s.length <= 10 ^ 18) -> Lib.parseUint10 acc s = .ok (s.foldl (fun (n : Int) c => 10 * n + ((c.toNat : Int) - 48)) acc).toNat /\ 0 <= s.foldl (fun (n : Int) c => 10 * n + ((c.toNat : Int) - 48)) acc
 | [], acc, _, _ => by simp [Lib.parseUint10]
 | c :: r, acc, h, hb => by
  have hc := h c (by simp);simp only [za9, Bool.and_eq_true, decide_eq_true_eq] at hc;have hpow : 1 <= 10 ^ r.length := Nat.one_le_pow _ _ (by decide);have e1 : (acc + 1) * 10 ^ (c :: r).length = (10 * (acc + 1)) * 10 ^ r.length := by
   rw [List.length_cons, Nat.pow_succ, Nat.mul_comm (10 ^ r.length) 10, <- Nat.mul_assoc, Nat.mul_comm (acc + 1) 10]
  rw [e1] at hb;have hle : (acc * 10 + (c.toNat - 48) + 1) * 10 ^ r.length <= 10 * (acc + 1) * 10 ^ r.length := Nat.mul_le_mul_right _ (by omega);have h18 : 10 * (acc + 1) <= 10 ^ 18 := Nat.le_trans (Nat.le_mul_of_pos_right _ hpow) hb;have ih := zgK r (acc * 10 + (c.toNat - 48)) (fun d hd => h d (by simp [hd])) (Nat.le_trans hle hb);have e2 : (10 * (acc : Int) + ((c.toNat : Int) - 48)) = ((acc * 10 + (c.toNat - 48) : Nat) : Int) := by omega
  rw [List.foldl_cons, e2];refine ⟨?_, ih.2⟩;rw [<- ih.1, Lib.parseUint10, if_pos hc, if_neg (by omega), if_neg (by omega)]
theorem zgF (n : Nat) (h : n < 10 ^ 17) : Lib.parseMag (Lib.decDigits n) = .ok n := by
 unfold Lib.parseMag;rw [if_neg (zgL n)];have hl := zjK n 16 (by omega);have hpow : 10 ^ (Lib.decDigits n).length <= 10 ^ 17 := Nat.pow_le_pow_right (by decide) (by omega);have h1 := zgK (Lib.decDigits n) 0 (zd5 n) (by omega);have h2 := zjJ n;unfold zbB at h2;simp only [Int.ofNat_zero, Int.natCast_zero] at h1;rw [h1.1, h2];simp
theorem zlS (n : Nat) {c : UInt8} {r : W8} (h : Lib.decDigits n = c :: r) : za9 c = true := zd5 n c (by rw [h]; simp)
theorem zi3 {a : Int} (h0 : -1099511627776 <= a) (h1 : a <= 1099511627776) : zk9 (Lib.itoa a) = a := by
 unfold Lib.itoa;split
 ·rename_i hn;have hm := zgF a.natAbs (by omega);have e : Lib.atoiAll (45 :: Lib.decDigits a.natAbs) = .ok a := by
   rw [Lib.atoiAll_minus, hm, Lib.signed];rw [if_neg (by omega)]
   congr 1
   omega
  rw [zk9, e]
 ·rename_i hn;have hm := zgF a.toNat (by omega);have e : Lib.atoiAll (Lib.decDigits a.toNat) = .ok a := by
   cases hd : Lib.decDigits a.toNat with
   | nil => exact absurd hd (zgL _)
   | cons c r =>
    have hc := zlS _ hd;simp only [za9, Bool.and_eq_true, decide_eq_true_eq] at hc;rw [Lib.atoiAll_plain c r (by omega) (by omega), <- hd, hm, Lib.signless];rw [if_neg (by omega)]
    congr 1
    omega
  rw [zk9, e]
def zfu (x : Ins) : W8 := if x.op = 0 \/ x.op = 12 \/ x.op = 13 then 32 :: Lib.itoa x.a else if x.op = 1 then 32 :: x.s else []
theorem ziK (x : Ins) : ze5 x = (zdQ x.op ++ zfu x) ++ [10] := rfl
theorem zp2 : ∀ n : Nat, n < 15 -> zjx wordsL (wordsL.getD n []) 0 = n /\ (32 : UInt8) ∉ wordsL.getD n [] /\ (10 : UInt8) ∉ wordsL.getD n [] := by decide
theorem zqs {s : W8} (h : zgP s = true) : (10 : UInt8) ∉ s := fun hm => by
 simp only [zgP, Bool.and_eq_true] at h;have h := h.1;cases s with
 | nil => cases hm
 | cons c r =>
  simp only [zh4, Bool.and_eq_true, decide_eq_true_eq] at h;have := zkd h.2 10 hm;simp [zdq, za9] at this
theorem zo4 (a : Int) : (10 : UInt8) ∉ Lib.itoa a := fun hm => by
 have hd : ∀ n, (10 : UInt8) ∉ Lib.decDigits n := fun n h => by
  have := zd5 n 10 h;simp [za9] at this
 unfold Lib.itoa at hm;split at hm
 ·simp at hm; exact hd _ hm
 ·exact hd _ hm
theorem zo6 {x : Ins} {i n : Nat} (h : zdM x i n = true) (hn : n <= 1099511627776) : zlK (zdQ x.op ++ zfu x) = x /\ (10 : UInt8) ∉ zdQ x.op ++ zfu x := by
 obtain ⟨op, a, s⟩ := x;have hw : ∀ o : Int, 0 <= o -> o < 15 -> zjx wordsL (zdQ o) 0 = o /\ (32 : UInt8) ∉ zdQ o /\ (10 : UInt8) ∉ zdQ o := fun o h0 h1 => by
  have := zp2 o.toNat (by omega);unfold zdQ;refine ⟨?_, this.2⟩;rw [this.1];omega
 unfold zdM at h;simp only at h;split at h
 ·rename_i e;subst e;simp at h;obtain ⟨⟨rfl, h1⟩, h2⟩ := h;obtain ⟨w1, w2, w3⟩ := hw 0 (by omega) (by omega);have et : zfu ⟨0, a, []⟩ = 32 :: Lib.itoa a := by simp [zfu]
  refine ⟨?_, ?_⟩
  ·rw [et];unfold zlK;rw [zk1 _ w2];simp only;rw [w1, if_neg (by omega), zi3 h1 h2]
  ·rw [et]; simp [w3, zo4]
 split at h
 ·rename_i e;subst e;simp at h;obtain ⟨rfl, h2⟩ := h;obtain ⟨w1, w2, w3⟩ := hw 1 (by omega) (by omega);have et : zfu ⟨1, 0, s⟩ = 32 :: s := by simp [zfu]
  refine ⟨?_, ?_⟩
  ·rw [et];unfold zlK;rw [zk1 _ w2];simp only;rw [w1, if_pos rfl]
  ·rw [et]; simp [w3, zqs h2]
 split at h
 ·rename_i e1 e2 e;simp at h;obtain ⟨⟨rfl, h1⟩, h2⟩ := h;obtain ⟨w1, w2, w3⟩ := hw op (by omega) (by omega);have et : zfu ⟨op, a, []⟩ = 32 :: Lib.itoa a := by simp only [zfu]; rw [if_pos (by omega)]
  refine ⟨?_, ?_⟩
  ·rw [et];unfold zlK;rw [zk1 _ w2];simp only;rw [w1, if_neg (by omega), zi3 (by omega) (by omega)]
  ·rw [et]; simp [w3, zo4]
 ·rename_i e1 e2 e3;simp at h;obtain ⟨⟨⟨rfl, rfl⟩, h1⟩, h2⟩ := h;obtain ⟨w1, w2, w3⟩ := hw op (by omega) (by omega);have et : zfu ⟨op, 0, []⟩ = [] := by simp only [zfu]; rw [if_neg (by omega), if_neg (by omega)]
  refine ⟨?_, ?_⟩
  ·rw [et, List.append_nil];unfold zlK;rw [zlT w2];simp only;rw [w1, if_neg (by omega)];rfl
  ·rw [et]; simpa using w3
theorem znj {c : UInt8} {p : W8} (q : W8) (h : c ∉ p) : zbF c (p ++ c :: q) = p :: zbF c q := by rw [zdU, zk1 q h]
theorem zni {c : UInt8} {p : W8} (h : c ∉ p) : zbF c p = [p] := by rw [zdU, zlT h]
theorem zhp : ∀ (l : Code), l ≠ [] -> (∀ x ∈ l, zlK (zdQ x.op ++ zfu x) = x /\ (10 : UInt8) ∉ zdQ x.op ++ zfu x) -> ∃ t, zdd l = t ++ [10] /\ (zbF 10 t).map zlK = l
 | [], h, _ => absurd rfl h
 | [x], _, h => by
  obtain ⟨h1, h2⟩ := h x (by simp);exact ⟨zdQ x.op ++ zfu x, by simp [zdd, ziK], by rw [zni h2]; simp [h1]⟩
 | x :: y :: r, _, h => by
  obtain ⟨h1, h2⟩ := h x (by simp);obtain ⟨t, h3, h4⟩ := zhp (y :: r) (by simp) (fun z hz => h z (by simp [List.mem_cons.1 hz]));refine ⟨(zdQ x.op ++ zfu x) ++ 10 :: t, ?_, ?_⟩
  ·have : zdd (x :: y :: r) = ze5 x ++ zdd (y :: r) := by simp [zdd]
   rw [this, h3, ziK];simp
  ·rw [znj _ h2, List.map_cons, h1, h4]
theorem zlt {l : Code} (h : zct l = true) : 0 < l.length /\ l.length <= 2000 /\ ∀ i x, l[i]? = some x -> zdM x i l.length = true := by
 simp only [zct, Bool.and_eq_true, decide_eq_true_eq] at h;exact ⟨h.1.1.1, h.1.1.2, fun i x hx => zfY h.1.2 hx⟩
theorem znk {l : Code} (h : zct l = true) : zdO (zdd l) = l := by
 obtain ⟨h1, h2, h3⟩ := zlt h;obtain ⟨t, h4, h5⟩ := zhp l (fun e => by rw [e] at h1; simp at h1) (fun x hx => by
  obtain ⟨i, hi⟩ := List.getElem?_of_mem hx;exact zo6 (h3 i x hi) (by omega))
 unfold zdO;rw [h4, zqb, h5]
theorem zos {l : Code} (h : zct l = true) : zjh (zdd l) = (l, 0) := by
 unfold zjh;rw [znk h, if_pos ⟨h, rfl⟩]
end Go.Proofs.YtkdhmbhbbciedaaGreatDoor
namespace Go.Proofs.YtkdhmbhbbciedaaGreatDoor
open Go Go.VL Go.Shelf Go.RowKit
theorem zjw (s : W8) (c : UInt8) : Fun Tryz.prog 145 [.u (.str s), .u (.int .u8 c.toNat)] (· = .u (.int .i64 (Lib.indexByte s c))) :=
 Fun.zpX fun k own w vs hsat hrep => by
  obtain ⟨v, u, rfl, hv, hu⟩ := zp7 hrep;have hv := zei hv;have hu := zbO hu;subst hv hu;refine ⟨_, .int _ _, (Tryz.stringslite_IndexByte ⟨s.toArray⟩ c.toNat w).mono ?_⟩;rintro e w' ⟨h1, rfl⟩;refine ⟨?_, Below.refl _ _⟩;rw [h1];simp
end Go.Proofs.YtkdhmbhbbciedaaGreatDoor
namespace Go.Proofs.YtkdhmbhbbciedaaGreatDoor
open Go Go.VL
def zkI (c : UInt8) (s : W8) : W8 := (zbF c s).getLast (zho s)
def zio (c : UInt8) (s : W8) : List (Nat × Ob) := [(1, .box [.u (.str s)]), (2, .box [.u (.str [c])]), (3, .box [.u (.int .i64 0)])]
theorem znx {c : UInt8} {s p q : W8} (h : zgM c s = some (p, q)) : zkI c s = zkI c q := by
 unfold zkI;have := zdU (c := c) s;rw [h] at this;simp only [this];rw [List.getLast_cons (zho q)]
theorem zny {c : UInt8} {s : W8} (h : zgM c s = none) : zkI c s = s := by
 unfold zkI;have := zdU (c := c) s;rw [h] at this;simp only [this];rfl
end Go.Proofs.YtkdhmbhbbciedaaGreatDoor
namespace Go.Proofs.YtkdhmbhbbciedaaGreatDoor
open Go Go.VL Go.Shelf Go.RowKit
theorem Fun.ofB {P : Program} {f : FuncId} {ds : List D} {post : D -> Prop} (h : ∀ (k : Kr) (own : Nat -> Prop) (w : World) (vs : Array Value), Sat k own [] w -> RepL k ds vs ->
  Calls P f vs w fun e w' => (∃ v d, e = .returned v /\ Rep k d v /\ zaV d = true /\ post d) /\ Below w.heap.size w w') : Fun P f ds post := by
 intro k own w vs hsat hhdr hown hrep;refine (h k own w vs hsat hrep).mono ?_;rintro e w' ⟨⟨v, d, rfl, hv, hpd, hpo⟩, hb⟩;refine ⟨v, d, [], 0, k, rfl, ⟨.refl _, fun i hi => hhdr i hi, fun _ _ _ e => .inl e, hown, hb.os, hb.tape, hb.output, hb.size, fun x hx => hb.block x ?_⟩, ⟨fun x o v hm => ?_, fun j ob hj => by simp [getK] at hj, fun x y ox oy g g' b hx => by simp [getK] at hx⟩, hhdr, Nat.le_refl _, hv, hpd, hpo⟩
 ·rcases Nat.lt_or_ge x w.heap.size with h | h
  ·exact h
  ·exact absurd (hown x h) hx
 ·rw [ze1 (hb.block x (hsat.memLt hm))];exact hsat.mem x o v hm
theorem zrW {k : Kr} {own obs} {w : World} (h : Sat k own obs w) {g : Nat} (hg : g ∈ ztH) : ∃ ev, w.cell? ⟨g, 0, none⟩ = some ev /\ (ev = .nilIface \/ ∃ te pe, ev = .iface te pe) := by
 obtain ⟨t, v, e⟩ := k.glob.ifc g hg;exact ⟨_, h.cell e, .inr ⟨t, v, rfl⟩⟩
theorem zrm (s : W8) (hl : s.length <= 140737488355328) : Fun Tryz.prog 45 [.u (.str s)] (fun d => ∃ v, d = .tup [.u (.int .i64 (zk9 s)), .u (.oth v)]) :=
 Fun.ofB fun k own w vs hsat hrep => by
  obtain ⟨v, rfl, hv⟩ := zhr hrep;have hv := zei hv;subst hv;have tup : ∀ (n : Int) (u : Value), Rep k (.tup [.u (.int .i64 n), .u (.oth u)]) (.tuple #[.int .i64 n, u]) := fun n u => .tup _ [_, _] rfl fun j d hj => by
   match j, hj with
   | 0, hj => cases hj; exact .u _ _ (.int _ _)
   | 1, hj => cases hj; exact .u _ _ (.oth _)
  have hsz : (⟨s.toArray⟩ : ByteArray).size <= 281474976710656 := by
   show s.toArray.size <= _;simp; omega
  unfold zk9;cases ha : Lib.atoiAll s with
  | ok n =>
   refine (Tryz.strconv_Atoi_ok ⟨s.toArray⟩ (by omega) n (by simpa using ha) w).mono ?_;rintro e w' ⟨rfl, h2⟩;refine ⟨⟨_, _, rfl, tup n .nilIface, by simp [zaV], _, rfl⟩, ?_⟩;rcases h2 with rfl | ⟨t, rfl⟩
   ·exact Below.refl _ _
   ·exact Lib.bytesWorld_below w _ t
  | range =>
   obtain ⟨ev, h1, h2⟩ := zrW hsat (g := 3) (by simp [ztH]);refine (Tryz.strconv_Atoi_range ⟨s.toArray⟩ hsz (by simpa using ha) ev w h1 h2).mono ?_;rintro e w' ⟨N, rfl, _, _, hb⟩;refine ⟨⟨_, _, rfl, tup (Lib.atoiSat s) _, by simp [zaV], _, rfl⟩, hb⟩
  | _ =>
   obtain ⟨ev, h1, h2⟩ := zrW hsat (g := 2) (by simp [ztH]);refine (Tryz.strconv_Atoi_syntax ⟨s.toArray⟩ hsz (by simp [ha]) ev w h1 h2).mono ?_;rintro e w' ⟨N, rfl, _, _, hb⟩;exact ⟨⟨_, _, rfl, tup 0 _, by simp [zaV], _, rfl⟩, hb⟩
end Go.Proofs.YtkdhmbhbbciedaaGreatDoor
namespace Go.Proofs.YtkdhmbhbbciedaaGreatDoor
open Go Go.VL
theorem zsF {lets : List Let} {e : Exp} (h : ¬ (zdC lets e).2 = 1) : zbW lets e = true := by
 rw [zhO] at h;by_cases hr : zbW lets e = true
 ·exact hr
 ·rw [if_neg hr] at h; exact absurd rfl h
end Go.Proofs.YtkdhmbhbbciedaaGreatDoor
namespace Go.Proofs.YtkdhmbhbbciedaaGreatDoor
open Go Go.VL
attribute [local simp] HS zaY zcB zbz evPure opd uOf zal St.put St.at getK binD binI binS binB nilD aggD zeS zfd lookD lookR zbE rangeS Go.VL.nextD Go.VL.nextS zbJ zfk zfe zeu zb7 mkV zaZ zcH zaL za1 mapEff zdw zek Key.kk shiftI arith unD convD zcP loadD cellsAt fieldAddrD fieldD indexAddrD indexSlD arrAddr indexD sliceD cutD lenD minmaxD nilCheckD buildD fillD zbn zcC zd1 setAll zcx zdZ zbD zeO zbC St.add zaj za6 rowsOf zcI zca zad zac zaa zaQ zcs zaG entry za2 za3 valD zbK zcq zeL zcD zcE zbp zbo zag zaB za0 delAll effD St.effS zb4 zaD zas zb5 zaE zau zbl zat zan zbm zb2 zaW zbj zaJ zbi zah mkD zbd za4 zbb zag zbN D.ids Op.operands Call.operands za5 makeIfD makeFuncD typeAssertD zfc zcL zcM zeY zbG IntKind.bits zbQ zam List.take_of_length_le List.range_succ zci zbx zcj zcd za7 zbq zbs zce zbu zaP zbt zbr zfJ zbw zcg zaH zav zch zaI zax zbv zaw zaq zcm zcn zfH zab frzN frz1 zaO zaN St.frz St.frzS frzS fv zbI zbV zcb zaM zay zao frz zcc zbH zbS zbT zaX St.norm St.lp St.only zaS wkE wkO wkU Ob.under D.under zai zap zck zby zcl h4s zdG zar zaV List.zipIdx_cons List.zipIdx_nil List.map_cons List.map_nil Nat.zero_add
attribute [local irreducible] V G H HD HD2 HD4 zgA RetX zaT Eff CallP CallV EndOK Fun Ret FinOK LoopI LoopW EndW HR vs2 RN Cnd H4
abbrev zpi (e : Exp) : D := .u (.agg e.row)
abbrev zp0 (n : Int) : D := .u (.int .i64 n)
theorem zbg {i nx : Nat} (h : i < nx) : ¬ i = nx /\ ¬ nx = i /\ (∀ k, ¬ i = nx + k) /\ ∀ k, ¬ nx + k = i := ⟨by omega, by omega, fun k => by omega, fun k => by omega⟩
theorem zp4 (l : List Tok) (p : Nat) (i nx : Nat) (hi : i < nx) (hp : p < l.length) (hl : TokOK l) :
  RetX Tryz.prog 183 [.ptr i 0] [(i, pOb l p)] nx (PPost l i nx zp0 (zm2 l p)) := by
 have hne := zbg hi;have hh1 := fun nx' (h : nx <= nx') => zcp l p [99, 111, 105, 110, 115] i nx' (by omega) hp hl.len;have hh2 := fun nx' (h : nx <= nx') => zcp l p [100, 97, 121, 115] i nx' (by omega) hp hl.len;have hh3 := fun nx' (h : nx <= nx') => zcp l p [112, 101, 114] i nx' (by omega) hp hl.len;unfold zm2;by_cases h1 : isB l p [99, 111, 105, 110, 115] = true
 ·simp only [h1, if_true] at hh1 ⊢;refine RetX.runW Tryz.func183 Tryz.ntmps183 rfl (by simp) fun Γ hn hpan => ?_
  repeat' (first
  | (refine zaf rfl ?_; simp [hne])
  | (refine CallP.ok1 (hh1 _ (by first | omega | (simp; done) | (simp; omega) | fail)) (by first | (simp [hne, zaa, getK, zab, zac]; done) | fail) (by rfl) (by first | assumption | (simp; done) | fail) (by rfl) (by simp) ?_; (try simp [hne]))
  | fail)
  (refine EndW.h Tryz.results183 ?_; simp)
  exact PPost.zeA rfl rfl (by first | rfl | simp [del])
 ·simp only [h1, Bool.false_eq_true, if_false] at hh1 ⊢;by_cases h2 : isB l p [100, 97, 121, 115] = true
  ·simp only [h2, if_true] at hh2 ⊢;refine RetX.runW Tryz.func183 Tryz.ntmps183 rfl (by simp) fun Γ hn hpan => ?_
   repeat' (first
  | (refine zaf rfl ?_; simp [hne])
  | (refine CallP.ok1 (hh1 _ (by first | omega | (simp; done) | (simp; omega) | fail)) (by first | (simp [hne, zaa, getK, zab, zac]; done) | fail) (by rfl) (by first | assumption | (simp; done) | fail) (by rfl) (by simp) ?_; (try simp [hne]))
  | (refine CallP.ok1 (hh2 _ (by first | omega | (simp; done) | (simp; omega) | fail)) (by first | (simp [hne, zaa, getK, zab, zac]; done) | fail) (by rfl) (by first | assumption | (simp; done) | fail) (by rfl) (by simp) ?_; (try simp [hne]))
  | fail)
   (refine EndW.h Tryz.results183 ?_; simp)
   exact PPost.zeA rfl rfl (by first | rfl | simp [del])
  ·simp only [h2, Bool.false_eq_true, if_false] at hh2 ⊢;by_cases h3 : isB l p [112, 101, 114] = true
   ·simp only [h3, if_true] at hh3 ⊢;have hw := fun nx' (h : nx <= nx') => zme l (p + 1) [[109, 105, 108, 108, 101]] i nx' (by omega) (zcA hl h3) hl (by simp);cases hr : zdv l (p + 1) [[109, 105, 108, 108, 101]] with
    | ok a q =>
     simp only [hr, List.map_cons, List.map_nil] at hw;refine RetX.runW Tryz.func183 Tryz.ntmps183 rfl (by simp) fun Γ hn hpan => ?_
     repeat' (first
  | (refine zaf rfl ?_; simp [hne])
  | (refine CallP.ok1 (hh1 _ (by first | omega | (simp; done) | (simp; omega) | fail)) (by first | (simp [hne, zaa, getK, zab, zac]; done) | fail) (by rfl) (by first | assumption | (simp; done) | fail) (by rfl) (by simp) ?_; (try simp [hne]))
  | (refine CallP.ok1 (hh2 _ (by first | omega | (simp; done) | (simp; omega) | fail)) (by first | (simp [hne, zaa, getK, zab, zac]; done) | fail) (by rfl) (by first | assumption | (simp; done) | fail) (by rfl) (by simp) ?_; (try simp [hne]))
  | (refine CallP.ok1 (hh3 _ (by first | omega | (simp; done) | (simp; omega) | fail)) (by first | (simp [hne, zaa, getK, zab, zac]; done) | fail) (by rfl) (by first | assumption | (simp; done) | fail) (by rfl) (by simp) ?_; (try simp [hne]))
  | (refine CallP.ok1 (hw _ (by first | omega | (simp; done) | (simp; omega) | fail)) (by first | (simp [hne, zaa, getK, zab, zac]; done) | fail) (by rfl) (by first | assumption | (simp; done) | fail) (by rfl) (by simp) ?_; (try simp [hne]))
  | (refine zbM (by first | rfl | fail) ?_; simp [hne, frzN, frz1, zaO, zaN, St.frz, St.frzS, frzS, fv, zbI, zbV, zcb, zaM, zay, zao, del, frz, zcc])
  | fail)
     (refine EndW.wk { n := _, env := [(2, zp0 4)], obs := [(i, pOb l q)], next := nx } (Wk.cut rfl (by simp [hn]) (by simp [wkO, zaa, getK, zab, zac, Ob.under, D.under, zai, zap, hne, hi]) (by simp [wkU, zaS, zaa, getK, D.under, hne, hi]) (by simp [wkE, zaS, zaa, getK, hne, hi])) (EndW.here ?_); (first | (refine EndOK.fin (.inr rfl) ?_) | (refine EndOK.fin (.inl rfl) ?_)); simp [zdG, zar, Tryz.results183]; refine FinOK.here (by simp) ?_; try simp)
     exact PPost.zeA rfl rfl (by first | rfl | simp [del])
    | stop pos e =>
     simp only [hr, List.map_cons, List.map_nil] at hw;refine RetX.runW Tryz.func183 Tryz.ntmps183 rfl (by simp) fun Γ hn hpan => ?_
     repeat' (first
  | (refine zaf rfl ?_; simp [hne])
  | (refine CallP.ok1 (hh1 _ (by first | omega | (simp; done) | (simp; omega) | fail)) (by first | (simp [hne, zaa, getK, zab, zac]; done) | fail) (by rfl) (by first | assumption | (simp; done) | fail) (by rfl) (by simp) ?_; (try simp [hne]))
  | (refine CallP.ok1 (hh2 _ (by first | omega | (simp; done) | (simp; omega) | fail)) (by first | (simp [hne, zaa, getK, zab, zac]; done) | fail) (by rfl) (by first | assumption | (simp; done) | fail) (by rfl) (by simp) ?_; (try simp [hne]))
  | (refine CallP.ok1 (hh3 _ (by first | omega | (simp; done) | (simp; omega) | fail)) (by first | (simp [hne, zaa, getK, zab, zac]; done) | fail) (by rfl) (by first | assumption | (simp; done) | fail) (by rfl) (by simp) ?_; (try simp [hne]))
  | (refine CallP.zg8 (hw _ (by first | omega | (simp; done) | (simp; omega) | fail)) (by first | (simp [hne, zaa, getK, zab, zac]; done) | fail) (by rfl) (by first | assumption | (simp; done) | fail) (by rfl) (by simp) ?_; rintro ob' ⟨q', rfl⟩; refine ⟨_, Wk.refl _, ?_⟩)
  | (refine zbM (by first | rfl | fail) ?_; simp [hne, frzN, frz1, zaO, zaN, St.frz, St.frzS, frzS, fv, zbI, zbV, zcb, zaM, zay, zao, del, frz, zcc])
  | fail)
     (refine hpan _ _ (PanG.k ([(i, pOb l q')]) (nx) (by simp [hn, hi, zab, zac, zaa, getK] <;> omega) ?_); try simp)
     exact PPost.zb1 rfl
   ·simp only [h3, Bool.false_eq_true, if_false] at hh3 ⊢;refine RetX.runW Tryz.func183 Tryz.ntmps183 rfl (by simp) fun Γ hn hpan => ?_
    repeat' (first
  | (refine zaf rfl ?_; simp [hne])
  | (refine CallP.ok1 (hh1 _ (by first | omega | (simp; done) | (simp; omega) | fail)) (by first | (simp [hne, zaa, getK, zab, zac]; done) | fail) (by rfl) (by first | assumption | (simp; done) | fail) (by rfl) (by simp) ?_; (try simp [hne]))
  | (refine CallP.ok1 (hh2 _ (by first | omega | (simp; done) | (simp; omega) | fail)) (by first | (simp [hne, zaa, getK, zab, zac]; done) | fail) (by rfl) (by first | assumption | (simp; done) | fail) (by rfl) (by simp) ?_; (try simp [hne]))
  | (refine CallP.ok1 (hh3 _ (by first | omega | (simp; done) | (simp; omega) | fail)) (by first | (simp [hne, zaa, getK, zab, zac]; done) | fail) (by rfl) (by first | assumption | (simp; done) | fail) (by rfl) (by simp) ?_; (try simp [hne]))
  | fail)
    (refine EndW.h Tryz.results183 ?_; simp)
    exact PPost.zeA rfl rfl (by first | rfl | simp [del])
theorem ziR : zlO 0 = .u (.row (wordsL.map .str) 0) := by
 simp [zlO, globs, wordsL, uOf]
theorem zqA (x : Ins) (h0 : 0 <= x.op) (h1 : x.op < 15) (ha : -9223372036854775808 <= x.a) (hb : x.a <= 9223372036854775807) (hsl : x.s.length <= 1000000) : Fun Tryz.prog 50 [.u (.agg [.int .i64 x.op, .int .i64 x.a, .str x.s])] (· = .u (.str (ze5 x))) := by
 have hgw := ziR;have hwl : wordsL.length = 15 := rfl;have hu : wordsL[x.op.toNat]? = some (zdQ x.op) := by
  rw [zdQ, List.getD, List.getElem?_eq_getElem (by omega)]; rfl
 have hu' : ∀ h, wordsL[x.op.toNat]'h = zdQ x.op := fun h => (List.getElem?_eq_some_iff.1 hu).2;have hit := zqJ x.a ha hb;have hkn : ((x.op.toNat : Nat) : Int) = x.op := by omega
 have hs : ∃ W, W = zdQ x.op := ⟨_, rfl⟩;obtain ⟨W, hW⟩ := hs;unfold ze5;have hwl2 : ∀ w ∈ wordsL, w.length <= 5 := by decide
 have hWl : (zdQ x.op).length <= 5 := hwl2 _ (List.mem_of_getElem? hu);rw [<- hW] at hu hu' hWl ⊢;clear hW hwl2;have hil := Lib.itoa_length_le x.a ha hb;generalize Lib.itoa x.a = T at *;refine Fun.run Tryz.func50 Tryz.ntmps50 Tryz.results50 rfl (by simp) fun Γ hn => ?_; simp only [entry, List.zipIdx_cons, List.zipIdx_nil, List.map_cons, List.map_nil, Nat.zero_add];by_cases e0 : x.op = 0
 ·rw [e0] at hu' ⊢;have hwx : wordsL[0]'(by decide) = W := hu' (by decide);clear hu hu' hkn
  repeat' (first
  | (refine zaf rfl ?_; simp [hgw, hwl, hwx])
  | (refine And.intro (by omega) ?_)
  | (refine CallP.f2 rfl (hit) (by first | simp [hgw, hwl, hwx] <;> rfl | fail) ?_; simp [hgw, hwl, hwx])
  | fail)
  (refine Pst.of ?_; simp)
 by_cases e12 : x.op = 12
 ·rw [e12] at hu' ⊢;have hwx : wordsL[12]'(by decide) = W := hu' (by decide);clear hu hu' hkn
  repeat' (first
  | (refine zaf rfl ?_; simp [hgw, hwl, hwx])
  | (refine And.intro (by omega) ?_)
  | (refine CallP.f2 rfl (hit) (by first | simp [hgw, hwl, hwx] <;> rfl | fail) ?_; simp [hgw, hwl, hwx])
  | fail)
  (refine Pst.of ?_; simp)
 by_cases e13 : x.op = 13
 ·rw [e13] at hu' ⊢;have hwx : wordsL[13]'(by decide) = W := hu' (by decide);clear hu hu' hkn
  repeat' (first
  | (refine zaf rfl ?_; simp [hgw, hwl, hwx])
  | (refine And.intro (by omega) ?_)
  | (refine CallP.f2 rfl (hit) (by first | simp [hgw, hwl, hwx] <;> rfl | fail) ?_; simp [hgw, hwl, hwx])
  | fail)
  (refine Pst.of ?_; simp)
 by_cases e1 : x.op = 1
 ·rw [e1] at hu' ⊢;have hwx : wordsL[1]'(by decide) = W := hu' (by decide);clear hu hu' hkn
  repeat' (first
  | (refine zaf rfl ?_; simp [hgw, hwl, hwx])
  | (refine And.intro (by omega) ?_)
  | fail)
  (refine Pst.of ?_; simp)
 repeat' (first
  | (refine zaf rfl ?_; simp [hgw, hwl, hu, hu', h0, h1, hkn, e0, e1, e12, e13])
  | (refine And.intro (by omega) ?_)
  | fail)
 (refine Pst.of ?_; simp)
end Go.Proofs.YtkdhmbhbbciedaaGreatDoor
namespace Go.Proofs.YtkdhmbhbbciedaaGreatDoor
open Go Go.VL Go.Shelf Go.RowKit
attribute [local simp] HS zaY zcB zbz evPure opd uOf zal St.put St.at getK binD binI binS binB nilD aggD zeS zfd lookD lookR zbE rangeS Go.VL.nextD Go.VL.nextS zbJ zfk zfe zeu zb7 mkV zaZ zcH zaL za1 mapEff zdw zek Key.kk shiftI arith unD convD zcP loadD cellsAt fieldAddrD fieldD indexAddrD indexSlD arrAddr indexD sliceD cutD lenD minmaxD nilCheckD buildD fillD zbn zcC zd1 setAll zcx zdZ zbD zeO zbC St.add zaj za6 rowsOf zcI zca zad zac zaa zaQ zcs zaG entry za2 za3 valD zbK zcq zeL zcD zcE zbp zbo zag zaB za0 delAll effD St.effS zb4 zaD zas zb5 zaE zau zbl zat zan zbm zb2 zaW zbj zaJ zbi zah mkD zbd za4 zbb zag zbN D.ids Op.operands Call.operands za5 makeIfD makeFuncD typeAssertD zfc zcL zcM zeY zbG IntKind.bits zbQ zam List.take_of_length_le List.range_succ zci zbx zcj zcd za7 zbq zbs zce zbu zaP zbt zbr zfJ zbw zcg zaH zav zch zaI zax zbv zaw zaq zcm zcn zfH zab frzN frz1 zaO zaN St.frz St.frzS frzS fv zbI zbV zcb zaM zay zao frz zcc zbH zbS zbT zaX St.norm St.lp St.only zaS wkE wkO wkU Ob.under D.under zai zap zck zby zcl h4s zdG zar zaV List.zipIdx_cons List.zipIdx_nil List.map_cons List.map_nil Nat.zero_add
attribute [local irreducible] V G H HD HD2 HD4 zgA RetX zaT Eff CallP CallV EndOK Fun Ret FinOK LoopI LoopW EndW HR vs2 RN Cnd H4
theorem ziQ (s : W8) (c : UInt8) : Fun Tryz.prog 119 [.u (.str s), .u (.str [c])] (· = .u (.int .i64 (Lib.indexByte s c))) := by
 have hib := zjw s c;by_cases he : s = [c]
 ·subst he;have e : Lib.indexByte [c] c = 0 := by simp [Lib.indexByte]
  rw [e];refine Fun.run Tryz.func119 Tryz.ntmps119 Tryz.results119 rfl (by simp) fun Γ hn => ?_
  repeat' (first
  | (refine zaf rfl ?_; simp)
  | fail)
  (refine Pst.of ?_; simp)
 ·generalize Lib.indexByte s c = n at hib ⊢;have he' : ¬ [c] = s := fun e => he e.symm;refine Fun.run Tryz.func119 Tryz.ntmps119 Tryz.results119 rfl (by simp) fun Γ hn => ?_
  repeat' (first
  | (refine zaf rfl ?_; simp [he', he])
  | (refine CallP.f2 rfl (hib) (by first | simp [he', he] <;> rfl | fail) ?_; simp [he', he])
  | fail)
  (refine Pst.of ?_; simp)
theorem zo7 (s : W8) (c : UInt8) : Fun Tryz.prog 117 [.u (.str s), .u (.str [c])] (· = .u (.int .i64 (Lib.indexByte s c))) := by
 have hib := ziQ s c;refine Fun.run Tryz.func117 Tryz.ntmps117 Tryz.results117 rfl (by simp) fun Γ hn => ?_
 repeat' (first
  | (refine zaf rfl ?_; simp)
  | (refine CallP.f2 rfl (hib) (by first | simp <;> rfl | fail) ?_; simp)
  | fail)
 (refine Pst.of ?_; simp)
def zsE (c : UInt8) (s : W8) : D := match zgM c s with
 | some p => .tup [.u (.str p.1), .u (.str p.2), .u (.bool true)]
 | none => .tup [.u (.str s), .u (.str []), .u (.bool false)]
theorem zqU (s : W8) (c : UInt8) (hl : s.length <= 140737488355328) : Fun Tryz.prog 77 [.u (.str s), .u (.str [c])] (· = zsE c s) := by
 have hib := ziQ s c;have hix := zhG (c := c) s;unfold zsE;cases hc : zgM c s with
 | none =>
  rw [hc] at hix;simp only at hix;rw [hix] at hib;refine Fun.run Tryz.func77 Tryz.ntmps77 Tryz.results77 rfl (by simp) fun Γ hn => ?_
  repeat' (first
  | (refine zaf rfl ?_; simp)
  | (refine CallP.f2 rfl (hib) (by first | simp <;> rfl | fail) ?_; simp)
  | fail)
  (refine Pst.of ?_; simp)
 | some pq =>
  obtain ⟨p, q⟩ := pq;rw [hc] at hix;simp only at hix ⊢;rw [hix] at hib;obtain ⟨rfl, _⟩ := zg4 hc;simp at hl;have e1 : List.drop (p.length + 1) (p ++ c :: q) = q := by simp [List.drop_append]
  have e2 : List.take p.length (p ++ c :: q) = p := by simp
  have b1 : p.length <= (p ++ c :: q).length := by simp
  have b2 : p.length + 1 <= (p ++ c :: q).length := by simp
  refine Fun.run Tryz.func77 Tryz.ntmps77 Tryz.results77 rfl (by simp) fun Γ hn => ?_
  repeat' (first
  | (refine zaf rfl ?_; simp [e1, e2, b1, b2])
  | (refine And.intro (by omega) ?_)
  | (refine ⟨hC _ (by kernel_rfl), hk _ (zel 8 _ _ _ ?_)⟩; clear hC hk C k; simp [e1, e2, b1, b2])
  | (refine zeW rfl (by kernel_rfl) (by first | (simp [hn]; done) | (simp [hn]; omega) | fail) fun C k hC hk => ?_; simp [e1, e2, b1, b2])
  | (refine CallP.f2 rfl (hib) (by first | simp [e1, e2, b1, b2] <;> rfl | fail) ?_; simp [e1, e2, b1, b2])
  | fail)
  (refine Pst.of ?_; simp)
theorem zsC (s : W8) (c : UInt8) (hl : s.length <= 140737488355328) : Fun Tryz.prog 43 [.u (.str s), .u (.str [c])] (· = zsE c s) := by
 have hib := zqU s c hl;unfold zsE at hib ⊢;cases hc : zgM c s <;> rw [hc] at hib <;> simp only at hib ⊢
 all_goals
  refine Fun.run Tryz.func43 Tryz.ntmps43 Tryz.results43 rfl (by simp) fun Γ hn => ?_
  repeat' (first
  | (refine zaf rfl ?_; simp)
  | (refine CallP.f2 rfl (hib) (by first | simp <;> rfl | fail) ?_; simp)
  | fail)
  (refine Pst.of ?_; simp)
theorem zjz (s : W8) (hl : s.length <= 140737488355328) : Fun Tryz.prog 118 [.u (.str s), .u (.str [10])] (· = .u (.bool (decide (s.getLast? = some 10)))) := by
 rcases List.eq_nil_or_concat s with rfl | ⟨t, c, rfl⟩
 ·refine Fun.run Tryz.func118 Tryz.ntmps118 Tryz.results118 rfl (by simp) fun Γ hn => ?_
  repeat' (first
  | (refine zaf rfl ?_; simp)
  | fail)
  (refine Pst.of ?_; simp)
 ·rw [List.concat_eq_append] at hl ⊢;have e1 : List.drop t.length (t ++ [c]) = [c] := by simp
  have e2 : (t ++ [c]).getLast? = some c := by simp
  simp at hl;rw [e2];refine Fun.run Tryz.func118 Tryz.ntmps118 Tryz.results118 rfl (by simp) fun Γ hn => ?_
  repeat' (first
  | (refine Cnd.of (fun hc => ?_) (fun hc => ?_) <;> (try (exfalso; omega)) <;> (try simp [e1]))
  | (refine zaf rfl ?_; simp [e1])
  | (refine And.intro (by omega) ?_)
  | fail)
  (refine Pst.of ?_; simp)
theorem zok (s : W8) (hl : s.length <= 140737488355328) : Fun Tryz.prog 76 [.u (.str s), .u (.str [10])] (· = .u (.str (zft s))) := by
 have hsf := zjz s hl;unfold zft;by_cases hb : s.getLast? = some 10
 ·rw [decide_eq_true hb] at hsf;rw [if_pos hb];obtain ⟨t, rfl⟩ : ∃ t, s = t ++ [10] := List.getLast?_eq_some_iff.1 hb;have e1 : List.take t.length (t ++ [10]) = t := by simp
  simp at hl;refine Fun.run Tryz.func76 Tryz.ntmps76 Tryz.results76 rfl (by simp) fun Γ hn => ?_
  repeat' (first
  | (refine zaf rfl ?_; simp [e1])
  | (refine And.intro (by omega) ?_)
  | (refine CallP.f2 rfl (hsf) (by first | simp [e1] <;> rfl | fail) ?_; simp [e1])
  | fail)
  (refine Pst.of ?_; simp)
 ·rw [decide_eq_false hb] at hsf;rw [if_neg hb];refine Fun.run Tryz.func76 Tryz.ntmps76 Tryz.results76 rfl (by simp) fun Γ hn => ?_
  repeat' (first
  | (refine zaf rfl ?_; simp)
  | (refine CallP.f2 rfl (hsf) (by first | simp <;> rfl | fail) ?_; simp)
  | fail)
  (refine Pst.of ?_; simp)
theorem zqa (s : W8) (hl : s.length <= 140737488355328) : Fun Tryz.prog 42 [.u (.str s), .u (.str [10])] (· = .u (.str (zft s))) := by
 have hsf := zok s hl;refine Fun.run Tryz.func42 Tryz.ntmps42 Tryz.results42 rfl (by simp) fun Γ hn => ?_
 repeat' (first
  | (refine zaf rfl ?_; simp)
  | (refine CallP.f2 rfl (hsf) (by first | simp <;> rfl | fail) ?_; simp)
  | fail)
 (refine Pst.of ?_; simp)
end Go.Proofs.YtkdhmbhbbciedaaGreatDoor
namespace Go.Proofs.YtkdhmbhbbciedaaGreatDoor
open Go Go.VL
attribute [local simp] HS zaY zcB zbz evPure opd uOf zal St.put St.at getK binD binI binS binB nilD aggD zeS zfd lookD lookR zbE rangeS Go.VL.nextD Go.VL.nextS zbJ zfk zfe zeu zb7 mkV zaZ zcH zaL za1 mapEff zdw zek Key.kk shiftI arith unD convD zcP loadD cellsAt fieldAddrD fieldD indexAddrD indexSlD arrAddr indexD sliceD cutD lenD minmaxD nilCheckD buildD fillD zbn zcC zd1 setAll zcx zdZ zbD zeO zbC St.add zaj za6 rowsOf zcI zca zad zac zaa zaQ zcs zaG entry za2 za3 valD zbK zcq zeL zcD zcE zbp zbo zag zaB za0 delAll effD St.effS zb4 zaD zas zb5 zaE zau zbl zat zan zbm zb2 zaW zbj zaJ zbi zah mkD zbd za4 zbb zag zbN D.ids Op.operands Call.operands za5 makeIfD makeFuncD typeAssertD zfc zcL zcM zeY zbG IntKind.bits zbQ zam List.take_of_length_le List.range_succ zci zbx zcj zcd za7 zbq zbs zce zbu zaP zbt zbr zfJ zbw zcg zaH zav zch zaI zax zbv zaw zaq zcm zcn zfH zab frzN frz1 zaO zaN St.frz St.frzS frzS fv zbI zbV zcb zaM zay zao frz zcc zbH zbS zbT zaX St.norm St.lp St.only zaS wkE wkO wkU Ob.under D.under zai zap zck zby zcl h4s zdG zar zaV List.zipIdx_cons List.zipIdx_nil List.map_cons List.map_nil Nat.zero_add
attribute [local irreducible] V G H HD HD2 HD4 zgA RetX zaT Eff CallP CallV EndOK Fun Ret FinOK LoopI LoopW EndW HR vs2 RN Cnd H4
theorem zm6 (c : UInt8) (s : W8) (hl : s.length <= 140737488355328) : zvh Tryz.prog 115 [.ptr 2 0, .ptr 1 0, .ptr 3 0] (zio c s) (zio c (zkI c s)) ((zbF c s).map fun t => .u (.str t)) := by
 intro k0 l L A N hdis hN hY;have hNle : ∀ i, N 0 <= N i := fun i => by
  induction i with
  | zero => omega
  | succ i ih => exact Nat.le_trans ih (hN i)
 simp only [zio] at hdis ⊢;have hdis1 : ∀ i j ob, getK [(1, Ob.box [D.u (.str s)]), (2, Ob.box [D.u (.str [c])]), (3, Ob.box [D.u (.int .i64 0)])] j = some ob -> getK (A i) j = none := hdis;have hdis2 : ∀ (t : W8) i j ob, getK [(1, Ob.box [D.u (.str t)]), (2, Ob.box [D.u (.str [c])]), (3, Ob.box [D.u (.int .i64 0)])] j = some ob -> getK (A i) j = none := fun t i j ob h => by
  simp only [zaa] at h hdis1;by_cases h1 : j = 1
  ·exact hdis1 i j _ (if_pos h1)
  ·rw [if_neg h1] at h;exact hdis1 i j ob (by rw [if_neg h1]; exact h)
 generalize hls : zkI c s = ls;refine RetI.of_body Tryz.func115 Tryz.ntmps115 rfl (by simp) fun Γ hn hyc hpan => ?_; simp only [entry, List.zipIdx_cons, List.zipIdx_nil, List.map_cons, List.map_nil, Nat.zero_add];rw [zsr 8, zqO 10]
 repeat' (first
  | (refine zf7 rfl ?_; simp)
  | fail)
 refine zs1 (α := { p : Nat × W8 // (zbF c s).drop p.1 = zbF c p.2 /\ p.2.length <= s.length /\ ls = zkI c p.2 }) [0, 1, 2, 3] (fun _ => []) (fun p => [(1, .box [.u (.str p.1.2)]), (2, .box [.u (.str [c])]), (3, .box [.u (.int .i64 0)])] ++ A p.1.1) (fun p => N p.1.1) (fun p => p.1.2.length) ⟨(0, s), by simp, by simp, hls.symm⟩ ?_ ?_
 ·exact (Wk.env rfl rfl rfl (by simp [wkE, St.lp, zaS, zaa, getK] <;> (try (intros; simp_all; done)) <;> (try (intros; omega)) <;> (try grind)))
 rintro ⟨⟨i, t⟩, h1, h2, h3⟩;simp;have hix := zo7 t c;rw [zhG] at hix;have hpc := zdU (c := c) t;simp only at h1 h2 h3;have hN0 := hNle i;have hlt : i < (zbF c s).length := by
  rcases Nat.lt_or_ge i (zbF c s).length with h | h
  ·exact h
  ·rw [List.drop_eq_nil_of_le h] at h1;exact absurd h1.symm (zho t)
 cases hc : zgM c t with
 | none =>
  rw [hc] at hix hpc;simp only at hix hpc;have h3' : ls = t := h3.trans (zny hc);have hlen : (zbF c s).length = i + 1 := by
   have := congrArg List.length h1;rw [hpc] at this;simp at this;omega
  have hget : ((zbF c s).map fun t => D.u (.str t))[i]? = some (.u (.str t)) := by
   have : ((zbF c s).drop i)[0]? = some t := by rw [h1, hpc]; rfl
   rw [List.getElem?_drop] at this;simp only [Nat.add_zero] at this;rw [List.getElem?_map, this];rfl
  repeat' (first
  | (refine zf7 rfl ?_; simp)
  | (refine CallP.f2 rfl (hix) (by first | simp <;> rfl | fail) ?_; simp)
  | fail)
  refine zmW 2 hpan hyc rfl rfl ?_;simp;refine YS.of [(1, .box [.u (.str t)]), (2, .box [.u (.str [c])]), (3, .box [.u (.int .i64 0)])] (hY i _ hget) rfl (fun _ => rfl) (hdis2 t i) rfl (by simp) ?_;rintro d o n hn2 ⟨rfl, rfl, rfl⟩;simp
  repeat' (first | fail)
  (refine EndW.h Tryz.results115 ?_; simp)
  rw [hlen, h3'];exact ⟨hNle _, ⟨rfl, rfl⟩, rfl⟩
 | some pq =>
  obtain ⟨p, q⟩ := pq;rw [hc] at hix hpc;simp only at hix hpc;have hget : ((zbF c s).map fun t => D.u (.str t))[i]? = some (.u (.str p)) := by
   have : ((zbF c s).drop i)[0]? = some p := by rw [h1, hpc]; rfl
   rw [List.getElem?_drop] at this;simp only [Nat.add_zero] at this;rw [List.getElem?_map, this];rfl
  have hdrop : (zbF c s).drop (i + 1) = zbF c q := by
   have : ((zbF c s).drop i).drop 1 = zbF c q := by rw [h1, hpc]; rfl
   rw [List.drop_drop] at this;exact this
  have hlp := znx hc;obtain ⟨rfl, _⟩ := zg4 hc;simp at h2;have e1 : List.drop (p.length + 1) (p ++ c :: q) = q := by simp [List.drop_append]
  have e2 : List.take p.length (p ++ c :: q) = p := by simp
  repeat' (first
  | (refine Cnd.of (fun hc => ?_) (fun hc => ?_) <;> (try (exfalso; omega)) <;> (try simp [e1, e2]))
  | (refine zf7 rfl ?_; simp [e1, e2])
  | (refine And.intro (by omega) ?_)
  | (refine CallP.f2 rfl (hix) (by first | simp [e1, e2] <;> rfl | fail) ?_; simp [e1, e2])
  | fail)
  refine zpL ?_;refine zsZ 2 hpan hyc rfl rfl ?_;simp;refine YS.of [(1, .box [.u (.str (p ++ c :: q))]), (2, .box [.u (.str [c])]), (3, .box [.u (.int .i64 0)])] (hY i _ hget) rfl (fun _ => rfl) (hdis2 (p ++ c :: q) i) rfl (by simp) ?_;rintro d o n hn2 ⟨rfl, rfl, rfl⟩;simp
  repeat' (first
  | (refine zf7 rfl ?_; simp [e1, e2])
  | (refine And.intro (by omega) ?_)
  | fail)
  refine LoopW.next ⟨(i + 1, q), hdrop, by simp; omega, h3.trans hlp⟩ (by simp; omega) ?_
  exact (Wk.env rfl rfl rfl (by simp [wkE, St.lp, zaS, zaa, getK] <;> (try (intros; simp_all; done)) <;> (try (intros; omega)) <;> (try grind)))
end Go.Proofs.YtkdhmbhbbciedaaGreatDoor
namespace Go.Proofs.YtkdhmbhbbciedaaGreatDoor
open Go Go.VL Go.Shelf Go.RowKit
attribute [local simp] HS zaY zcB zbz evPure opd uOf zal St.put St.at getK binD binI binS binB nilD aggD zeS zfd lookD lookR zbE rangeS Go.VL.nextD Go.VL.nextS zbJ zfk zfe zeu zb7 mkV zaZ zcH zaL za1 mapEff zdw zek Key.kk shiftI arith unD convD zcP loadD cellsAt fieldAddrD fieldD indexAddrD indexSlD arrAddr indexD sliceD cutD lenD minmaxD nilCheckD buildD fillD zbn zcC zd1 setAll zcx zdZ zbD zeO zbC St.add zaj za6 rowsOf zcI zca zad zac zaa zaQ zcs zaG entry za2 za3 valD zbK zcq zeL zcD zcE zbp zbo zag zaB za0 delAll effD St.effS zb4 zaD zas zb5 zaE zau zbl zat zan zbm zb2 zaW zbj zaJ zbi zah mkD zbd za4 zbb zag zbN D.ids Op.operands Call.operands za5 makeIfD makeFuncD typeAssertD zfc zcL zcM zeY zbG IntKind.bits zbQ zam List.take_of_length_le List.range_succ zci zbx zcj zcd za7 zbq zbs zce zbu zaP zbt zbr zfJ zbw zcg zaH zav zch zaI zax zbv zaw zaq zcm zcn zfH zab frzN frz1 zaO zaN St.frz St.frzS frzS fv zbI zbV zcb zaM zay zao frz zcc zbH zbS zbT zaX St.norm St.lp St.only zaS wkE wkO wkU Ob.under D.under zai zap zck zby zcl h4s zdG zar zaV List.zipIdx_cons List.zipIdx_nil List.map_cons List.map_nil Nat.zero_add
attribute [local irreducible] V G H HD HD2 HD4 zgA RetX zaT Eff CallP CallV EndOK Fun Ret FinOK LoopI LoopW EndW HR vs2 RN Cnd H4
theorem zje (s : W8) (c : UInt8) : Ret Tryz.prog 75 [.u (.str s), .u (.str [c]), .u (.int .i64 0)] [] 1
  (fun d o n => d = .fnc (.func 115) [.ptr 2 0, .ptr 1 0, .ptr 3 0] /\ o = [(3, .box [.u (.int .i64 0)]), (2, .box [.u (.str [c])]), (1, .box [.u (.str s)])] /\ n = 4) := by
 refine Ret.runW Tryz.func75 Tryz.ntmps75 rfl (by simp) fun Γ hn => ?_
 repeat' (first
  | (refine zaf rfl ?_; simp)
  | fail)
 (refine EndW.h Tryz.results75 ?_; simp)
theorem zkb (s : W8) (c : UInt8) : Ret Tryz.prog 41 [.u (.str s), .u (.str [c])] [] 1
  (fun d o n => d = .fnc (.func 115) [.ptr 2 0, .ptr 1 0, .ptr 3 0] /\ o = [(3, .box [.u (.int .i64 0)]), (2, .box [.u (.str [c])]), (1, .box [.u (.str s)])] /\ n = 4) := by
 have h1 := zje s c;have hca : zae Tryz.prog 75 = true := by kernel_rfl
 refine Ret.runW Tryz.func41 Tryz.ntmps41 rfl (by simp) fun Γ hn => ?_
 repeat' (first
  | (refine zaf rfl ?_; simp [hca])
  | (refine CallP.zvj (h1) (by rfl) (by first | assumption | simp) (by rfl) (by simp) ?_; rintro d o n' hn' ⟨rfl, rfl, rfl⟩; (try simp at hn'); (try simp [hca]))
  | fail)
 (refine EndW.h Tryz.results41 ?_; simp)
end Go.Proofs.YtkdhmbhbbciedaaGreatDoor
