import Derived.Test.YthnemhfamhnfjaaGreatDoorJ3
import Derived.Lib.ItoaNum
set_option linter.all false
set_option maxRecDepth 100000
set_option maxHeartbeats 8000000
namespace Go.Proofs.YthnemhfamhnfjaaGreatDoor
open Go Go.VL
attribute [local simp] zdS zcz evPure opd uOf zaN St.put St.at getK binD binI binS binB nilD aggD zjm zkZ lookD lookR zdv Go.VL.nextD zdz zlv zk0 zid zc5 mkV zep zbT zb7 mapEff zfk zhO Key.kk shiftI arith unD convD zfC loadD cellsAt fieldAddrD fieldD indexAddrD indexD sliceD cutD lenD minmaxD nilCheckD buildD fillD zcs zd9 zf2 setAll zdC zgj zdo zkH zde St.add za8 zct rowsOf ze5 zdq zal zac zaa zbK zd4 zbo entry zcb zck valD zcB zc6 zjf zen zeo zcw zch zaE zba zbX delAll effD St.effS zeq zbM zbs zer zbN zbu zc7 zbt zbg zc8 zeb zcu zc0 zb1 zcY zcZ zaL mkD zcp zce zcg zaE zdk D.ids Op.operands Call.operands zcq makeIfD makeFuncD typeAssertD zkY zeT zeU zkV zdx IntKind.bits zdG List.take_of_length_le List.range_succ
attribute [local irreducible] V G H HD HD2 zap Eff CallP CallV EndOK Fun Ret FinOK LoopI LoopW EndW
def inB (lo hi : Int) (l : List Int) : Bool := !l.any fun n => decide (n < lo) || decide (hi < n)
theorem zrk (lo hi n : Int) : Fun Tryz.prog 119 (zr5 n :: [U.row [.int .i64 lo] 0, U.row [.int .i64 hi] 0].map .u) (· = .u (.bool (decide (n < lo) || decide (hi < n)))) := by
 simp only [zr5, List.map_cons, List.map_nil]
 (refine Fun.of_body Tryz.func119 rfl (by simp) fun Γ hn => ?_); simp only [entry, ziC, ziN, maC, maN, oA, Tryz.ntmps119]
 repeat' (first
  | ((first | refine zag ?_ | refine zaj ?_ | refine zah ?_ | fail); simp)
  | (refine zaq ?_; simp only [zap])
  | (refine ⟨fun hc => ?_, fun hc => ?_⟩ <;> (try (exfalso; omega)))
  | fail)
 all_goals
  (refine EndOK.val (.inr rfl) ?_; simp [zaA, zae, zar, Tryz.results119])
 all_goals grind
theorem zkm (lo hi : Int) (l : List Int) : Fun Tryz.prog 66 [.u (.int .i64 lo), .u (.int .i64 hi), .u (zrj l)] (· = .u (.bool (inB lo hi l))) := by
 have h1 := zjb l 119 [U.row [.int .i64 lo] 0, U.row [.int .i64 hi] 0] _ (fun n _ => zrk lo hi n) (by simp) (fun _ => rfl) (fun _ => rfl);simp only [List.map_cons, List.map_nil] at h1;unfold inB
 (refine Fun.of_body Tryz.func66 rfl (by simp) fun Γ hn => ?_); simp only [entry, ziC, ziN, maC, maN, oA, Tryz.ntmps66]
 simp only [zrj] at h1 ⊢
 repeat' (first
  | ((first | refine zag ?_ | refine zaj ?_ | refine zah ?_ | fail); simp)
  | (refine zaq ?_; simp only [zap])
  | (refine CallP.fE (h1) (by first | rfl | fail) (by first | (simp; done) | (simp; rfl) | fail) ?_; (try simp))
  | fail)
 (refine EndOK.val (.inr rfl) ?_; simp [zaA, zae, zar, Tryz.results66])
theorem zmO (x l : Let) : Fun Tryz.prog 68 (zoM x :: [U.row (zl3 l) 0].map .u) (· = .u (.bool (decide (x.name = l.name)))) := by
 simp only [zoM, zl3, List.map_cons, List.map_nil]
 (refine Fun.of_body Tryz.func68 rfl (by simp) fun Γ hn => ?_); simp only [entry, ziC, ziN, maC, maN, oA, Tryz.ntmps68]
 repeat' (first
  | ((first | refine zag ?_ | refine zaj ?_ | refine zah ?_ | fail); simp)
  | (refine zaq ?_; simp only [zap])
  | fail)
 (refine EndOK.val (.inr rfl) ?_; simp [zaA, zae, zar, Tryz.results68])
structure By where
 kind : Int
 period : Int
 grace : Int
 wait : Int
 last : Int
 order : Int
 sld : Bool
 backs : Int
 voices : Int
 jury : Int
 fund : Int
 lets : List Let
 due : Exp
 fine : Exp
 pay : Exp
 cover : Exp
 hold : Exp
 deriving Inhabited
def zbb (b : By) : List U := [.int .i64 b.kind, .int .i64 b.period, .int .i64 b.grace, .int .i64 b.wait, .int .i64 b.last, .int .i64 b.order, .bool b.sld, .int .i64 b.backs, .int .i64 b.voices, .int .i64 b.jury, .int .i64 b.fund,
 .sl (b.lets.map fun l => [.str l.name, .int .i64 l.body.op, .int .i64 l.body.n, .int .i64 l.body.unit, .str l.body.s, .sl (l.body.args.map Exp.row)]),
 .int .i64 b.due.op, .int .i64 b.due.n, .int .i64 b.due.unit, .str b.due.s, .sl (b.due.args.map Exp.row),
 .int .i64 b.fine.op, .int .i64 b.fine.n, .int .i64 b.fine.unit, .str b.fine.s, .sl (b.fine.args.map Exp.row),
 .int .i64 b.pay.op, .int .i64 b.pay.n, .int .i64 b.pay.unit, .str b.pay.s, .sl (b.pay.args.map Exp.row),
 .int .i64 b.cover.op, .int .i64 b.cover.n, .int .i64 b.cover.unit, .str b.cover.s, .sl (b.cover.args.map Exp.row),
 .int .i64 b.hold.op, .int .i64 b.hold.n, .int .i64 b.hold.unit, .str b.hold.s, .sl (b.hold.args.map Exp.row)]
def zrm (b : By) : Bool := inB 0 2 [b.kind] && inB 0 2 [b.order] && inB 1 1000 [b.period, b.last] && inB 0 1000 [b.grace, b.wait, b.voices, b.fund] && inB 0 60 [b.backs, b.jury]
def zhS (seen : List Let) : List Let -> Bool
 | [] => true
 | l :: r => zb3 l.name && zaP 12 l.body && !seen.any (fun x => decide (x.name = l.name)) && zhS (seen ++ [l]) r
theorem zpX {L : List Let} {i : Nat} {l : Let} (h : L[i]? = some l) : zhS (L.take i) (L.drop i) = (zb3 l.name && zaP 12 l.body && !(L.take i).any (fun x => decide (x.name = l.name)) && zhS (L.take (i + 1)) (L.drop (i + 1))) := by
 obtain ⟨hi, rfl⟩ := lGE.1 h;rw [List.drop_eq_getElem_cons hi, zhS, List.take_succ_eq_append_getElem hi]
def zrp (b : By) : Bool := zaP 12 b.due && zaP 12 b.fine && zaP 12 b.pay && zaP 12 b.cover && zaP 12 b.hold
def zeY (b : By) : Bool := zrm b && !(b.sld && decide (b.kind ≠ 1)) && decide (b.lets.length <= 20) && zhS [] b.lets && zrp b
set_option maxRecDepth 100000 in
set_option maxHeartbeats 4000000 in
theorem zey (b : By) : Fun Tryz.prog 23 [.u (.agg (zbb b))] (· = .u (.bool (zeY b))) := by
 have i1 := zkm 0 2 [b.kind];have i2 := zkm 0 2 [b.order];have i3 := zkm 1 1000 [b.period, b.last];have i4 := zkm 0 1000 [b.grace, b.wait, b.voices, b.fund];have i5 := zkm 0 60 [b.backs, b.jury];simp only [zrj, List.map_cons, List.map_nil] at i1 i2 i3 i4 i5;have hr : ∀ e : Exp, Fun Tryz.prog 25 [.u (.agg [.int .i64 e.op, .int .i64 e.n, .int .i64 e.unit, .str e.s, .sl (e.args.map Exp.row)])] (· = .u (.bool (zaP 12 e))) := fun e => zdV e;have e1 := hr b.due;have e2 := hr b.fine;have e3 := hr b.pay;have e4 := hr b.cover;have e5 := hr b.hold;unfold zeY zrm zrp;generalize inB 0 2 [b.kind] = c1 at i1 ⊢;generalize inB 0 2 [b.order] = c2 at i2 ⊢;generalize inB 1 1000 [b.period, b.last] = c3 at i3 ⊢;generalize inB 0 1000 [b.grace, b.wait, b.voices, b.fund] = c4 at i4 ⊢;generalize inB 0 60 [b.backs, b.jury] = c5 at i5 ⊢
 (refine Fun.of_body Tryz.func23 rfl (by simp) fun Γ hn => ?_); simp only [entry, ziC, ziN, maC, maN, oA, Tryz.ntmps23]
 simp only [zbb]
 repeat' (first
  | ((first | refine zag ?_ | refine zaj ?_ | refine zah ?_ | refine zai ?_ | refine zat ?_ | fail); simp)
  | ((first | refine zaq ?_ | refine zao ?_ | fail); simp only [zap])
  | (refine ⟨fun hc => ?_, fun hc => ?_⟩ <;> (try (exfalso; omega)))
  | (refine CallP.fE (i1) (by first | rfl | fail) (by first | (simp; done) | (simp; rfl) | fail) ?_; (try simp))
  | (refine CallP.fE (i2) (by first | rfl | fail) (by first | (simp; done) | (simp; rfl) | fail) ?_; (try simp))
  | (refine CallP.fE (i3) (by first | rfl | fail) (by first | (simp; done) | (simp; rfl) | fail) ?_; (try simp))
  | (refine CallP.fE (i4) (by first | rfl | fail) (by first | (simp; done) | (simp; rfl) | fail) ?_; (try simp))
  | (refine CallP.fE (i5) (by first | rfl | fail) (by first | (simp; done) | (simp; rfl) | fail) ?_; (try simp))
  | fail)
 all_goals try ((refine EndOK.val (.inr rfl) ?_; simp [zaA, zae, zar, Tryz.results23]); clear i1 i2 i3 i4 i5 hr e1 e2 e3 e4 e5; grind)
 all_goals
  refine zb8 (α := { i : Nat // i <= b.lets.length /\ zhS [] b.lets = zhS (b.lets.take i) (b.lets.drop i) }) [1, 62, 63] (fun i => [(64, .u (.int .i64 i.1))]) (fun i => b.lets.length - i.1) ⟨0, by omega, by simp⟩ ?_ ?_
  ·exact (Wk.cut rfl (by simp [hn, St.lp]) (by simp [wkO, St.lp, zaa, getK, Ob.under, D.under, zad, zaf]) (by simp [wkU, St.lp, zan, zaa, getK, D.under]) (by simp [wkE, St.lp, zan, zaa, getK] <;> (try (intros; simp_all; done)) <;> (try (intros; omega)) <;> (try grind)))
  rintro ⟨i, hi, hb⟩;simp [St.lp, St.only, zan, zaa, getK];rcases hx : b.lets[i]? with _ | l
  ·have hge : b.lets.length <= i := by simpa using hx
   have hb' : zhS [] b.lets = true := by rw [hb, List.drop_of_length_le hge]; rfl
   generalize zaP 12 b.due = x1 at e1 ⊢;generalize zaP 12 b.fine = x2 at e2 ⊢;generalize zaP 12 b.pay = x3 at e3 ⊢;generalize zaP 12 b.cover = x4 at e4 ⊢;generalize zaP 12 b.hold = x5 at e5 ⊢
   repeat' (first
  | ((first | refine zag ?_ | refine zaj ?_ | fail); simp [hx])
  | (refine ⟨by omega, ?_⟩)
  | (refine zah ?_; simp [hx])
  | (refine zaq ?_; simp only [zap])
  | (refine za9 ?_; simp [zap])
  | (refine ⟨fun hc => ?_, fun hc => ?_⟩ <;> (try (exfalso; omega)))
  | (intro hc <;> (try (exfalso; omega)))
  | (refine CallP.fE (e1) (by first | rfl | fail) (by first | simp [hx] <;> rfl | fail) ?_; (try simp [hx]))
  | (refine CallP.fE (e2) (by first | rfl | fail) (by first | simp [hx] <;> rfl | fail) ?_; (try simp [hx]))
  | (refine CallP.fE (e3) (by first | rfl | fail) (by first | simp [hx] <;> rfl | fail) ?_; (try simp [hx]))
  | (refine CallP.fE (e4) (by first | rfl | fail) (by first | simp [hx] <;> rfl | fail) ?_; (try simp [hx]))
  | (refine CallP.fE (e5) (by first | rfl | fail) (by first | simp [hx] <;> rfl | fail) ?_; (try simp [hx]))
  | fail)
   all_goals
    (refine EndOK.val (.inr rfl) ?_; simp [zaA, zae, zar, Tryz.results23])
   all_goals
    clear i1 i2 i3 i4 i5 hr e1 e2 e3 e4 e5
    grind
  ·have hlt : i < b.lets.length := (lGE.1 hx).1;have hnx := zpX hx;have e6 := zeD l.name;have e7 := hr l.body;have e8 := zgd (b.lets.take i) 68 [U.row (zl3 l) 0] _ (fun x _ => zmO x l) (by simp) (fun _ => rfl) (fun _ => rfl);simp only [zfO, zl3, List.map_cons, List.map_nil] at e8;generalize zb3 l.name = y1 at e6 hnx;generalize zaP 12 l.body = y2 at e7 hnx;generalize ((b.lets.take i).any fun x => decide (x.name = l.name)) = y3 at e8 hnx
   repeat' (first
  | ((first | refine zag ?_ | refine zaj ?_ | fail); simp [hx])
  | (refine ⟨by omega, ?_⟩)
  | ((first | refine zah ?_ | refine zai ?_ | refine zas ?_ | fail); simp [hx])
  | ((first | refine zaq ?_ | refine zao ?_ | fail); simp only [zap])
  | (refine ⟨?_, by omega⟩)
  | (refine ⟨fun hc => ?_, fun hc => ?_⟩ <;> (try (exfalso; omega)))
  | (intro hc <;> (try (exfalso; omega)))
  | (refine CallP.fE (e6) (by first | rfl | fail) (by first | simp [hx] <;> rfl | fail) ?_; (try simp [hx]))
  | (refine CallP.fE (e7) (by first | rfl | fail) (by first | simp [hx] <;> rfl | fail) ?_; (try simp [hx]))
  | (refine CallP.fE (e8) (by first | rfl | fail) (by first | simp [hx] <;> rfl | fail) ?_; (try simp [hx]))
  | fail)
   all_goals first
    | (refine LoopW.next ⟨i + 1, by omega, by simp_all⟩ (by simp; omega) ?_; exact (Wk.cut rfl (by simp [hn, St.lp]) (by simp [wkO, St.lp, zaa, getK, Ob.under, D.under, zad, zaf]) (by simp [wkU, St.lp, zan, zaa, getK, D.under]) (by simp [wkE, St.lp, zan, zaa, getK] <;> (try (intros; simp_all; done)) <;> (try (intros; omega)) <;> (try grind))))
    | ((refine EndOK.val (.inr rfl) ?_; simp [zaA, zae, zar, Tryz.results23]); clear i1 i2 i3 i4 i5 hr e1 e2 e3 e4 e5 e6 e7 e8; grind)
theorem zex (c : UInt8) : Fun Tryz.prog 106 [.u (.int .u8 c.toNat)] (· = .u (.bool (zbx c))) := by
 unfold zbx
 (refine Fun.of_body Tryz.func106 rfl (by simp) fun Γ hn => ?_); simp only [entry, ziC, ziN, maC, maN, oA, Tryz.ntmps106]
 repeat' (first
  | ((first | refine zag ?_ | refine zaj ?_ | refine zah ?_ | fail); simp)
  | (refine zaq ?_; simp only [zap])
  | (refine ⟨fun hc => ?_, fun hc => ?_⟩ <;> (try (exfalso; omega)))
  | fail)
 all_goals
  (refine EndOK.val (.inr rfl) ?_; simp [zaA, zae, zar, Tryz.results106])
 all_goals first | omega | (simp; omega) | (rw [Bool.eq_iff_iff]; simp; omega)
theorem zed (c : UInt8) : Fun Tryz.prog 107 [.u (.int .u8 c.toNat)] (· = .u (.bool (zaI c))) := by
 unfold zaI
 (refine Fun.of_body Tryz.func107 rfl (by simp) fun Γ hn => ?_); simp only [entry, ziC, ziN, maC, maN, oA, Tryz.ntmps107]
 repeat' (first
  | ((first | refine zag ?_ | refine zaj ?_ | refine zah ?_ | fail); simp)
  | (refine zaq ?_; simp only [zap])
  | (refine ⟨fun hc => ?_, fun hc => ?_⟩ <;> (try (exfalso; omega)))
  | fail)
 all_goals
  (refine EndOK.val (.inr rfl) ?_; simp [zaA, zae, zar, Tryz.results107])
 all_goals first | omega | (simp; omega) | (rw [Bool.eq_iff_iff]; simp; omega)
theorem znX (s : List UInt8) : Fun Tryz.prog 51 [.u (.str s)] (· = .u (.bool (zeX s))) := by
 cases s with
 | nil =>
  (refine Fun.of_body Tryz.func51 rfl (by simp) fun Γ hn => ?_); simp only [entry, ziC, ziN, maC, maN, oA, Tryz.ntmps51]
  repeat' (first
  | ((first | refine zag ?_ | refine zaj ?_ | refine zah ?_ | refine zai ?_ | fail); simp)
  | (refine zaq ?_; simp only [zap])
  | fail)
  all_goals
   (refine EndOK.val (.inr rfl) ?_; simp [zaA, zae, zar, Tryz.results51])
  all_goals simp [zeX]
 | cons c s =>
  by_cases hl : s.length + 1 <= 20
  ·have h1 := zex c;by_cases hc1 : zbx c = true
   ·rw [hc1] at h1
    (refine Fun.of_body Tryz.func51 rfl (by simp) fun Γ hn => ?_); simp only [entry, ziC, ziN, maC, maN, oA, Tryz.ntmps51]
    repeat' (first
  | ((first | refine zag ?_ | refine zaj ?_ | refine zah ?_ | refine zai ?_ | refine zat ?_ | fail); simp)
  | (refine zao ?_; simp only [zap])
  | (refine ⟨?_, by omega⟩)
  | (intro hc <;> (try (exfalso; omega)))
  | (refine CallP.fE (h1) (by first | rfl | fail) (by first | (simp; done) | (simp; rfl) | fail) ?_; (try simp))
  | fail)
    refine zb8 (α := { i : Nat // 1 <= i /\ i <= (c :: s).length /\ ∀ x ∈ (c :: s).take i, (zbx x || zaI x) = true }) [0] (fun i => [(3, .u (.int .i64 i.1))]) (fun i => (c :: s).length - i.1) ⟨1, by omega, by simp, by simp [hc1]⟩ ?_ ?_
    ·exact (Wk.env rfl rfl rfl (by simp [wkE, St.lp, zan, zaa, getK] <;> (try (intros; simp_all; done)) <;> (try (intros; omega)) <;> (try grind)))
    rintro ⟨i, h0, hi, hb⟩;simp [St.lp, St.only, zan, zaa, getK];rcases hx : (c :: s)[i]? with _ | y
    ·have hge : (c :: s).length <= i := by simpa using hx
     simp only [List.length_cons] at hge hi
     repeat' (first
  | ((first | refine zag ?_ | refine zaj ?_ | fail); simp [hx])
  | (refine ⟨by omega, ?_⟩)
  | ((first | refine zah ?_ | refine zai ?_ | fail); simp [hx])
  | (refine zaq ?_; simp only [zap])
  | (refine za9 ?_; simp [zap])
  | (intro hc <;> (try (exfalso; omega)))
  | fail)
     (refine EndOK.val (.inr rfl) ?_; simp [zaA, zae, zar, Tryz.results51])
     rw [List.take_of_length_le (by simpa using hge)] at hb;have h2 := zdU (p := fun c => zbx c || zaI c) (l := c :: s) (i := (c :: s).length) (by rw [List.take_length]; exact hb) (Nat.le_refl _) (.inl rfl);simp only [zeX, hc1, h2];simp; omega
    ·have hlt := (lGE.1 hx).1;have h2 := zex y;have h3 := zed y;simp only [List.length_cons] at hlt hi;generalize hyl : zbx y = yl at h2;generalize hyd : zaI y = yd at h3
     repeat' (first
  | ((first | refine zag ?_ | refine zaj ?_ | fail); simp [hx])
  | (refine ⟨by omega, ?_⟩)
  | ((first | refine zah ?_ | refine zai ?_ | refine zas ?_ | fail); simp [hx])
  | ((first | refine zaq ?_ | refine zao ?_ | fail); simp only [zap])
  | (refine ⟨?_, by omega⟩)
  | (refine ⟨fun hc => ?_, fun hc => ?_⟩ <;> (try (exfalso; omega)))
  | (intro hc <;> (try (exfalso; omega)))
  | (refine CallP.fE (h2) (by first | rfl | fail) (by first | simp [hx] <;> rfl | fail) ?_; (try simp [hx]))
  | (refine CallP.fE (h3) (by first | rfl | fail) (by first | simp [hx] <;> rfl | fail) ?_; (try simp [hx]))
  | fail)
     all_goals first
      | (refine LoopW.next ⟨i + 1, by omega, by simp; omega, zbv hx hb (by simp_all)⟩ (by simp; omega) ?_; exact (Wk.env rfl rfl rfl (by simp [wkE, St.lp, zan, zaa, getK] <;> (try (intros; simp_all; done)) <;> (try (intros; omega)) <;> (try grind))))
      | ((refine EndOK.val (.inr rfl) ?_; simp [zaA, zae, zar, Tryz.results51])
         have h4 := zdU (p := fun c => zbx c || zaI c) (l := c :: s) (i := i) hb (by simp; omega) (.inr ⟨y, hx, by simp_all⟩);simp only [zeX, hc1, h4];simp; omega)
   ·rw [Bool.not_eq_true] at hc1;rw [hc1] at h1
    (refine Fun.of_body Tryz.func51 rfl (by simp) fun Γ hn => ?_); simp only [entry, ziC, ziN, maC, maN, oA, Tryz.ntmps51]
    repeat' (first
  | ((first | refine zag ?_ | refine zaj ?_ | refine zah ?_ | refine zai ?_ | fail); simp)
  | (refine zaq ?_; simp only [zap])
  | (refine ⟨?_, by omega⟩)
  | (intro hc <;> (try (exfalso; omega)))
  | (refine CallP.fE (h1) (by first | rfl | fail) (by first | (simp; done) | (simp; rfl) | fail) ?_; (try simp))
  | fail)
    all_goals
     (refine EndOK.val (.inr rfl) ?_; simp [zaA, zae, zar, Tryz.results51])
    all_goals simp [zeX, hc1]
  ·(refine Fun.of_body Tryz.func51 rfl (by simp) fun Γ hn => ?_); simp only [entry, ziC, ziN, maC, maN, oA, Tryz.ntmps51]
   repeat' (first
  | ((first | refine zag ?_ | refine zaj ?_ | fail); simp)
  | (refine ⟨by omega, ?_⟩)
  | ((first | refine zah ?_ | refine zai ?_ | fail); simp)
  | (refine zaq ?_; simp only [zap])
  | (refine ⟨?_, by omega⟩)
  | (intro hc <;> (try (exfalso; omega)))
  | fail)
   all_goals
     (refine EndOK.val (.inr rfl) ?_; simp [zaA, zae, zar, Tryz.results51])
   all_goals
     simp [zeX]
     try omega
set_option maxHeartbeats 4000000 in
set_option maxRecDepth 100000 in
theorem ziz : Fun Tryz.prog 50 [] (· = .u (zpq words)) := by
 (refine Fun.of_bodyW Tryz.func50 rfl (by simp) fun Γ hn => ?_); simp only [entry, ziC, ziN, maC, maN, oA, Tryz.ntmps50]
 simp only [zpq, words, List.map_cons, List.map_nil]
 repeat' (first
  | ((first | refine zag ?_ | refine zaj ?_ | refine zah ?_ | fail); simp [zck, zcb])
  | (refine zaq ?_; simp only [zap])
  | fail)
 (refine EndW.frzN 1 ?_; simp [frzN, frz1, zaz, zay, St.frz, St.frzS, frzS, fv, zaH, za2, za4, zaG, zau, zam, del, frz, za5])
 refine EndW.here ?_
 (refine EndOK.val (.inr rfl) ?_; simp [zaA, zae, zar, Tryz.results50])
set_option maxRecDepth 100000 in
theorem zhg (s : List UInt8) : Fun Tryz.prog 17 [.u (.str s)] (· = .u (.bool (zb3 s))) := by
 have h2 := znX s;have h3 := ziz;simp only [zpq] at h3;unfold zb3;generalize hW : words = W at h3 ⊢;have hWl : W.length = 35 := by rw [<- hW]; rfl
 clear hW
 (refine Fun.of_body Tryz.func17 rfl (by simp) fun Γ hn => ?_); simp only [entry, ziC, ziN, maC, maN, oA, Tryz.ntmps17]
 repeat' (first
  | ((first | refine zag ?_ | refine zaj ?_ | refine zah ?_ | refine zat ?_ | fail); simp)
  | (refine CallP.fE (h3) (by first | rfl | fail) (by first | (simp; done) | (simp; rfl) | fail) ?_; (try simp))
  | fail)
 refine zb8 (α := { i : Nat // i <= W.length /\ ∀ x ∈ W.take i, ¬ x = s }) [0, 3] (fun i => [(4, .u (.int .i64 i.1))]) (fun i => W.length - i.1) ⟨0, by omega, by simp⟩ ?_ ?_
 ·exact (Wk.env rfl rfl rfl (by simp [wkE, St.lp, zan, zaa, getK] <;> (try (intros; simp_all; done)) <;> (try (intros; omega)) <;> (try grind)))
 rintro ⟨i, hi, hb⟩;simp [St.lp, St.only, zan, zaa, getK];rcases hx : W[i]? with _ | y
 ·have hge : W.length <= i := by simpa using hx
  repeat' (first
  | ((first | refine zag ?_ | refine zaj ?_ | fail); simp [hx])
  | (refine ⟨by omega, ?_⟩)
  | ((first | refine zah ?_ | refine zai ?_ | fail); simp [hx])
  | (refine zaq ?_; simp only [zap])
  | (refine za9 ?_; simp [zap])
  | (intro hc <;> (try (exfalso; omega)))
  | (refine CallP.fE (h2) (by first | rfl | fail) (by first | simp [hx] <;> rfl | fail) ?_; (try simp [hx]))
  | fail)
  (refine EndOK.val (.inr rfl) ?_; simp [zaA, zae, zar, Tryz.results17])
  rw [List.take_of_length_le hge] at hb;have : s ∉ W := fun h => hb s h rfl;simp [this]
 ·have hlt := (lGE.1 hx).1
  repeat' (first
  | ((first | refine zag ?_ | refine zaj ?_ | fail); simp [hx])
  | (refine ⟨by omega, ?_⟩)
  | ((first | refine zah ?_ | refine zai ?_ | refine zas ?_ | fail); simp [hx])
  | ((first | refine zaq ?_ | refine zao ?_ | fail); simp only [zap])
  | (refine ⟨?_, by omega⟩)
  | (refine ⟨fun hc => ?_, fun hc => ?_⟩ <;> (try (exfalso; omega)))
  | (intro hc <;> (try (exfalso; omega)))
  | fail)
  ·(refine EndOK.val (.inr rfl) ?_; simp [zaA, zae, zar, Tryz.results17])
   have : s ∈ W := by
     have h5 := List.mem_of_getElem? hx;simp_all
   simp [this]
  ·refine LoopW.next ⟨i + 1, by omega, zbv hx hb (by assumption)⟩ (by simp; omega) ?_
   exact (Wk.env rfl rfl rfl (by simp [wkE, St.lp, zan, zaa, getK] <;> (try (intros; simp_all; done)) <;> (try (intros; omega)) <;> (try grind)))
theorem zpe (c : UInt8) : Fun Tryz.prog 76 [.u (.int .u8 c.toNat)] (· = .u (.bool (zbi c))) := by
 unfold zbi
 (refine Fun.of_body Tryz.func76 rfl (by simp) fun Γ hn => ?_); simp only [entry, ziC, ziN, maC, maN, oA, Tryz.ntmps76]
 repeat' (first
  | ((first | refine zag ?_ | refine zaj ?_ | refine zah ?_ | fail); simp)
  | (refine zaq ?_; simp only [zap])
  | (refine ⟨fun hc => ?_, fun hc => ?_⟩ <;> (try (exfalso; omega)))
  | fail)
 all_goals
  (refine EndOK.val (.inr rfl) ?_; simp [zaA, zae, zar, Tryz.results76])
 all_goals first | omega | (rw [Bool.eq_iff_iff]; simp; omega) | (simp; omega)
theorem zos (c : UInt8) : Fun Tryz.prog 124 [.u (.int .u8 c.toNat)] (· = .u (.bool (zbH c))) := by
 unfold zbH
 (refine Fun.of_body Tryz.func124 rfl (by simp) fun Γ hn => ?_); simp only [entry, ziC, ziN, maC, maN, oA, Tryz.ntmps124]
 repeat' (first
  | ((first | refine zag ?_ | refine zaj ?_ | refine zah ?_ | fail); simp)
  | (refine zaq ?_; simp only [zap])
  | (refine ⟨fun hc => ?_, fun hc => ?_⟩ <;> (try (exfalso; omega)))
  | (refine CallP.fE (zeh c) (by first | rfl | fail) (by first | (simp; done) | (simp; rfl) | fail) ?_; (try simp))
  | (refine CallP.fE (zff c) (by first | rfl | fail) (by first | (simp; done) | (simp; rfl) | fail) ?_; (try simp))
  | fail)
 all_goals
  (refine EndOK.val (.inr rfl) ?_; simp [zaA, zae, zar, Tryz.results124])
 all_goals simp_all
theorem zdT (p : UInt8 -> Bool) (l : List UInt8) : zbQ p l <= l.length := by
 unfold zbQ;exact (List.takeWhile_sublist p).length_le
theorem znT {p : UInt8 -> Bool} {l : List UInt8} (h : zbQ p l = l.length) : ∀ c ∈ l, p c = true := by
 have : l.takeWhile p = l := (List.takeWhile_sublist p).eq_of_length h;intro c hc;rw [<- this] at hc;exact List.all_eq_true.1 (List.all_takeWhile (l := l) (p := p)) c hc
theorem zm0 (s : List UInt8) (hl : s.length <= 1000000) : Fun Tryz.prog 125 [.u (.str s)] (· = .tup [.u (.int .i64 ((zcO s).getD 0)), .u (.bool (zcO s).isSome)]) := by
 have hsp := zfY s hl 104 zaI (fun c _ => zff c) (by simp);unfold zcO;cases s with
 | nil =>
  (refine Fun.of_body Tryz.func125 rfl (by simp) fun Γ hn => ?_); simp only [entry, ziC, ziN, maC, maN, oA, Tryz.ntmps125]
  repeat' (first
  | ((first | refine zag ?_ | refine zaj ?_ | refine zah ?_ | refine zai ?_ | fail); simp)
  | (refine zaq ?_; simp only [zap])
  | fail)
  all_goals
   (refine EndOK.val (.inr rfl) ?_; simp [zaA, zae, zar, Tryz.results125])
 | cons c s =>
  by_cases h1 : zbQ zaI (c :: s) = (c :: s).length
  case neg =>
   rw [if_pos (.inr (.inl h1))];have h1' : ¬ (zbQ zaI (c :: s) : Int) = s.length + 1 := by simp at h1; omega
   (refine Fun.of_body Tryz.func125 rfl (by simp) fun Γ hn => ?_); simp only [entry, ziC, ziN, maC, maN, oA, Tryz.ntmps125]
   repeat' (first
  | ((first | refine zag ?_ | refine zaj ?_ | refine zah ?_ | refine zai ?_ | fail); simp [h1'])
  | (refine zaq ?_; simp only [zap])
  | (refine CallP.fE (hsp) (by first | rfl | fail) (by first | simp [h1'] <;> rfl | fail) ?_; (try simp [h1']))
  | fail)
   all_goals
    (refine EndOK.val (.inr rfl) ?_; simp [zaA, zae, zar, Tryz.results125])
  have h1' : (zbQ zaI (c :: s) : Int) = s.length + 1 := by simp at h1; omega
  by_cases h2 : c.toNat = 48 /\ s ≠ []
  ·rw [if_pos (.inr (.inr (.inl ⟨by have := h2.1; simp; exact UInt8.toNat_inj.1 this, by simp; intro _; exact h2.2⟩)))];have h2b := h2.1;have h2a := h2.2
   (refine Fun.of_body Tryz.func125 rfl (by simp) fun Γ hn => ?_); simp only [entry, ziC, ziN, maC, maN, oA, Tryz.ntmps125]
   repeat' (first
  | ((first | refine zag ?_ | refine zaj ?_ | refine zah ?_ | refine zai ?_ | fail); simp [h1', h2a, h2b])
  | (refine zaq ?_; simp only [zap])
  | (refine CallP.fE (hsp) (by first | rfl | fail) (by first | simp [h1', h2a, h2b] <;> rfl | fail) ?_; (try simp [h1', h2a, h2b]))
  | fail)
   all_goals
    (refine EndOK.val (.inr rfl) ?_; simp [zaA, zae, zar, Tryz.results125])
  have h2' : c.toNat = 48 -> s = [] := fun h => by
   by_cases hs : s = []
   ·exact hs
   ·exact absurd ⟨h, hs⟩ h2
  by_cases h3 : 13 < (c :: s).length
  ·rw [if_pos (.inr (.inr (.inr h3)))];have h3' : 13 < (s.length : Int) + 1 := by simp at h3; omega
   have hne : s ≠ [] := fun e => by rw [e] at h3; simp at h3
   have h2'' : ¬ c.toNat = 48 := fun h => hne (h2' h)
   (refine Fun.of_body Tryz.func125 rfl (by simp) fun Γ hn => ?_); simp only [entry, ziC, ziN, maC, maN, oA, Tryz.ntmps125]
   repeat' (first
  | ((first | refine zag ?_ | refine zaj ?_ | fail); simp [h1', h2'', h3'])
  | (refine ⟨by omega, ?_⟩)
  | ((first | refine zah ?_ | refine zai ?_ | fail); simp [h1', h2'', h3'])
  | (refine zaq ?_; simp only [zap])
  | (intro hc <;> (try (exfalso; omega)))
  | (refine CallP.fE (hsp) (by first | rfl | fail) (by first | simp [h1', h2'', h3'] <;> rfl | fail) ?_; (try simp [h1', h2'', h3']))
  | fail)
   all_goals
    (refine EndOK.val (.inr rfl) ?_; simp [zaA, zae, zar, Tryz.results125])
  have hall := znT h1;rw [if_neg (by
   simp only [not_or];refine ⟨by simp, fun h => h h1, fun h => ?_, h3⟩;have hc48 : c = 48 := by have := h.1; simpa using this
   have := h2' (by rw [hc48]; rfl);rw [this, hc48] at h;exact h.2 rfl)]
  have h3' : ¬ 13 < (s.length : Int) + 1 := by simp at h3; omega
  have hval : ∀ k, k <= (c :: s).length -> 0 <= zaK ((c :: s).take k) /\ zaK ((c :: s).take k) < 10 ^ 13 := fun k hk => by
   have h4 := zdF k ((c :: s).take k) (by simp; simp at hk; omega) (fun x hx => hall x (List.mem_of_mem_take hx));have : (10 : Int) ^ k <= 10 ^ 13 := by
    have := Nat.pow_le_pow_right (n := 10) (by omega) (show k <= 13 by simp at h3 hk; omega)
    exact_mod_cast this
   omega
  have hloop : ∀ (hw : c.toNat = 48 -> s = []), Fun Tryz.prog 125 [.u (.str (c :: s))] (· = .tup [.u (.int .i64 ((if 1099511627776 < zaK (c :: s) then none else some (zaK (c :: s)) : Option Int).getD 0)), .u (.bool (if 1099511627776 < zaK (c :: s) then none else some (zaK (c :: s)) : Option Int).isSome)]) := fun hw => by
   by_cases h48 : c.toNat = 48
   ·have h48' : (c.toNat : Int) = 48 := by omega
    have hc48 : (c = 48) = True := eq_true (UInt8.toNat_inj.1 h48);have hs0 : (s = []) = True := eq_true (hw h48)
    (refine Fun.of_body Tryz.func125 rfl (by simp) fun Γ hn => ?_); simp only [entry, ziC, ziN, maC, maN, oA, Tryz.ntmps125]
    repeat' (first
  | ((first | refine zag ?_ | refine zaj ?_ | refine zah ?_ | refine zai ?_ | refine zat ?_ | fail); simp [h1', h3', h48', hc48, hs0])
  | (refine zao ?_; simp only [zap])
  | (refine CallP.fE (hsp) (by first | rfl | fail) (by first | simp [h1', h3', h48', hc48, hs0] <;> rfl | fail) ?_; (try simp [h1', h3', h48', hc48, hs0]))
  | fail)
    refine zb8 (α := { i : Nat // i <= (c :: s).length }) [0, 30] (fun i => [(4, .u (.int .i64 (zaK ((c :: s).take i.1)))), (31, .u (.int .i64 i.1))]) (fun i => (c :: s).length - i.1) ⟨0, by omega⟩ ?_ ?_
    ·exact (Wk.cut rfl (by simp [hn, St.lp]) (by simp [wkO, St.lp, zaa, getK, Ob.under, D.under, zad, zaf, zaK]) (by simp [wkU, St.lp, zan, zaa, getK, D.under, zaK]) (by simp [wkE, St.lp, zan, zaa, getK, zaK] <;> (try (intros; simp_all; done)) <;> (try (intros; omega)) <;> (try grind)))
    rintro ⟨i, hi⟩;simp [St.lp, St.only, zan, zaa, getK];rcases hx : (c :: s)[i]? with _ | a
    ·have hge : (c :: s).length <= i := by simpa using hx
     obtain rfl : i = (c :: s).length := by omega
     rw [List.take_length];have hge2 : ¬ ((c :: s).length : Int) < s.length + 1 := by simp
     by_cases hb : 1099511627776 < zaK (c :: s)
     ·repeat' (first
  | ((first | refine zag ?_ | refine zaj ?_ | refine zah ?_ | refine zai ?_ | fail); simp [hb, hge2])
  | (refine zaq ?_; simp only [zap])
  | (refine za9 ?_; simp [zap])
  | fail)
      (refine EndOK.val (.inr rfl) ?_; simp [zaA, zae, zar, Tryz.results125])
      try simp [hb]
     ·repeat' (first
  | ((first | refine zag ?_ | refine zaj ?_ | refine zah ?_ | refine zai ?_ | fail); simp [hb, hge2])
  | ((first | refine zaq ?_ | refine zao ?_ | fail); simp only [zap])
  | (refine za9 ?_; simp [zap])
  | fail)
      (refine EndOK.val (.inr rfl) ?_; simp [zaA, zae, zar, Tryz.results125])
      try simp [hb]
    ·have hlt : i < (c :: s).length := (lGE.1 hx).1;have hlt2 : (i : Int) < s.length + 1 := by simp at hlt; omega
     have hd := hall a (List.mem_of_getElem? hx);simp only [zaI, Bool.and_eq_true, decide_eq_true_eq] at hd;have hv := hval i hi;have hv2 := hval (i + 1) hlt;have hsn : zaK ((c :: s).take (i + 1)) = 10 * zaK ((c :: s).take i) + ((a.toNat : Int) - 48) := by
      rw [List.take_succ, hx]; exact zcH _ _
     generalize zaK ((c :: s).take i) = dv at hv hsn;have hsn2 := hsn.symm
     repeat' (first
  | ((first | refine zag ?_ | refine zaj ?_ | fail); simp [hx, hlt2, hsn2])
  | (refine ⟨by omega, ?_⟩)
  | ((first | refine zah ?_ | refine zas ?_ | fail); simp [hx, hlt2, hsn2])
  | (refine zao ?_; simp only [zap])
  | fail)
     refine LoopW.next ⟨i + 1, hlt⟩ (by simp at hlt; simp; omega) ?_
     exact (Wk.cut rfl (by simp [hn, St.lp]) (by simp [wkO, St.lp, zaa, getK, Ob.under, D.under, zad, zaf, hsn]) (by simp [wkU, St.lp, zan, zaa, getK, D.under, hsn]) (by simp [wkE, St.lp, zan, zaa, getK, hsn] <;> (try (intros; simp_all; done)) <;> (try (intros; omega)) <;> (try grind)))
   ·(refine Fun.of_body Tryz.func125 rfl (by simp) fun Γ hn => ?_); simp only [entry, ziC, ziN, maC, maN, oA, Tryz.ntmps125]
    repeat' (first
  | ((first | refine zag ?_ | refine zaj ?_ | fail); simp [h1', h3', h48])
  | (refine ⟨by omega, ?_⟩)
  | ((first | refine zah ?_ | refine zai ?_ | refine zat ?_ | fail); simp [h1', h3', h48])
  | (refine zao ?_; simp only [zap])
  | (intro hc <;> (try (exfalso; omega)))
  | (refine CallP.fE (hsp) (by first | rfl | fail) (by first | simp [h1', h3', h48] <;> rfl | fail) ?_; (try simp [h1', h3', h48]))
  | fail)
    refine zb8 (α := { i : Nat // i <= (c :: s).length }) [0, 30] (fun i => [(4, .u (.int .i64 (zaK ((c :: s).take i.1)))), (31, .u (.int .i64 i.1))]) (fun i => (c :: s).length - i.1) ⟨0, by omega⟩ ?_ ?_
    ·exact (Wk.cut rfl (by simp [hn, St.lp]) (by simp [wkO, St.lp, zaa, getK, Ob.under, D.under, zad, zaf, zaK]) (by simp [wkU, St.lp, zan, zaa, getK, D.under, zaK]) (by simp [wkE, St.lp, zan, zaa, getK, zaK] <;> (try (intros; simp_all; done)) <;> (try (intros; omega)) <;> (try grind)))
    rintro ⟨i, hi⟩;simp [St.lp, St.only, zan, zaa, getK];rcases hx : (c :: s)[i]? with _ | a
    ·have hge : (c :: s).length <= i := by simpa using hx
     obtain rfl : i = (c :: s).length := by omega
     rw [List.take_length];have hge2 : ¬ ((c :: s).length : Int) < s.length + 1 := by simp
     by_cases hb : 1099511627776 < zaK (c :: s)
     ·repeat' (first
  | ((first | refine zag ?_ | refine zaj ?_ | refine zah ?_ | refine zai ?_ | fail); simp [hb, hge2])
  | (refine zaq ?_; simp only [zap])
  | (refine za9 ?_; simp [zap])
  | fail)
      (refine EndOK.val (.inr rfl) ?_; simp [zaA, zae, zar, Tryz.results125])
      try simp [hb]
     ·repeat' (first
  | ((first | refine zag ?_ | refine zaj ?_ | refine zah ?_ | refine zai ?_ | fail); simp [hb, hge2])
  | ((first | refine zaq ?_ | refine zao ?_ | fail); simp only [zap])
  | (refine za9 ?_; simp [zap])
  | fail)
      (refine EndOK.val (.inr rfl) ?_; simp [zaA, zae, zar, Tryz.results125])
      try simp [hb]
    ·have hlt : i < (c :: s).length := (lGE.1 hx).1;have hlt2 : (i : Int) < s.length + 1 := by simp at hlt; omega
     have hd := hall a (List.mem_of_getElem? hx);simp only [zaI, Bool.and_eq_true, decide_eq_true_eq] at hd;have hv := hval i hi;have hv2 := hval (i + 1) hlt;have hsn : zaK ((c :: s).take (i + 1)) = 10 * zaK ((c :: s).take i) + ((a.toNat : Int) - 48) := by
      rw [List.take_succ, hx]; exact zcH _ _
     generalize zaK ((c :: s).take i) = dv at hv hsn;have hsn2 := hsn.symm
     repeat' (first
  | ((first | refine zag ?_ | refine zaj ?_ | fail); simp [hx, hlt2, hsn2])
  | (refine ⟨by omega, ?_⟩)
  | ((first | refine zah ?_ | refine zas ?_ | fail); simp [hx, hlt2, hsn2])
  | (refine zao ?_; simp only [zap])
  | fail)
     refine LoopW.next ⟨i + 1, hlt⟩ (by simp at hlt; simp; omega) ?_
     exact (Wk.cut rfl (by simp [hn, St.lp]) (by simp [wkO, St.lp, zaa, getK, Ob.under, D.under, zad, zaf, hsn]) (by simp [wkU, St.lp, zan, zaa, getK, D.under, hsn]) (by simp [wkE, St.lp, zan, zaa, getK, hsn] <;> (try (intros; simp_all; done)) <;> (try (intros; omega)) <;> (try grind)))
  exact hloop h2'
theorem zll (s p : List UInt8) : Fun Tryz.prog 142 [.u (.str s), .u (.str p)] (· = .u (.bool (p.isPrefixOf s))) := by
 by_cases hl : p.length <= s.length
 ·have hl2 : (p.length : Int) <= s.length := by omega
  by_cases he : s.take p.length = p
  ·have hp : p.isPrefixOf s = true := List.isPrefixOf_iff_prefix.2 (List.prefix_iff_eq_take.2 he.symm)
   (refine Fun.of_body Tryz.func142 rfl (by simp) fun Γ hn => ?_); simp only [entry, ziC, ziN, maC, maN, oA, Tryz.ntmps142]
   repeat' (first
  | ((first | refine zag ?_ | refine zaj ?_ | refine zah ?_ | fail); simp [hl, hl2, he])
  | (refine zaq ?_; simp only [zap])
  | fail)
   all_goals
    (refine EndOK.val (.inr rfl) ?_; simp [zaA, zae, zar, Tryz.results142])
   all_goals first | (rw [hp]; done) | exact List.isPrefixOf_iff_prefix.1 hp | (simp [hp]; done) | rfl
  ·have hp : p.isPrefixOf s = false := by
    cases h : p.isPrefixOf s with
    | false => rfl
    | true => exact absurd (List.prefix_iff_eq_take.1 (List.isPrefixOf_iff_prefix.1 h)).symm he
   (refine Fun.of_body Tryz.func142 rfl (by simp) fun Γ hn => ?_); simp only [entry, ziC, ziN, maC, maN, oA, Tryz.ntmps142]
   repeat' (first
  | ((first | refine zag ?_ | refine zaj ?_ | refine zah ?_ | fail); simp [hl, hl2, he])
  | (refine zaq ?_; simp only [zap])
  | fail)
   all_goals
    (refine EndOK.val (.inr rfl) ?_; simp [zaA, zae, zar, Tryz.results142])
   all_goals first | (rw [hp]; done) | exact List.isPrefixOf_iff_prefix.1 hp | (simp [hp]; done) | rfl
 ·have hl2 : ¬ (p.length : Int) <= s.length := by omega
  have hp : p.isPrefixOf s = false := by
   cases h : p.isPrefixOf s with
   | false => rfl
   | true => exact absurd (List.isPrefixOf_iff_prefix.1 h).length_le hl
  (refine Fun.of_body Tryz.func142 rfl (by simp) fun Γ hn => ?_); simp only [entry, ziC, ziN, maC, maN, oA, Tryz.ntmps142]
  repeat' (first
  | ((first | refine zag ?_ | refine zaj ?_ | refine zah ?_ | fail); simp [hl, hl2])
  | (refine zaq ?_; simp only [zap])
  | fail)
  all_goals
   (refine EndOK.val (.inr rfl) ?_; simp [zaA, zae, zar, Tryz.results142])
  all_goals first | (rw [hp]; done) | exact List.isPrefixOf_iff_prefix.1 hp | (simp [hp]; done) | rfl
theorem zmS (s p : List UInt8) : Fun Tryz.prog 126 [.u (.str s), .u (.str p)] (· = .u (.bool (p.isPrefixOf s))) := by
 have h := zll s p
 (refine Fun.of_body Tryz.func126 rfl (by simp) fun Γ hn => ?_); simp only [entry, ziC, ziN, maC, maN, oA, Tryz.ntmps126]
 repeat' (first
  | ((first | refine zag ?_ | refine zaj ?_ | refine zah ?_ | fail); simp)
  | (refine zaq ?_; simp only [zap])
  | (refine CallP.fE (h) (by first | rfl | fail) (by first | (simp; done) | (simp; rfl) | fail) ?_; (try simp))
  | fail)
 (refine EndOK.val (.inr rfl) ?_; simp [zaA, zae, zar, Tryz.results126])
@[local simp] theorem zrP : zoW 0 = .u (.row (signsL.map .str) 0) := by
 simp [zoW, globs, signsL, uOf]
theorem hsl : signsL.length = 11 := rfl
theorem zpQ (s : List UInt8) (hs : s ≠ []) (hl : s.length <= 1000000) : Fun Tryz.prog 77 [.u (.str s)] (· = nextD s) := by
 obtain ⟨c, r, rfl⟩ : ∃ c r, s = c :: r := by cases s with | nil => exact absurd rfl hs | cons c r => exact ⟨c, r, rfl⟩
 have h1 := zeh c;have h2 := zff c;have h3 := zfY (c :: r) hl 124 zbH (fun c _ => zos c) (by simp);have h4 := zfY (c :: r) hl 104 zaI (fun c _ => zff c) (by simp);have h5 := zlJ ((c :: r).take (zbQ zbH (c :: r)));have h6 := zm0 ((c :: r).take (zbQ zaI (c :: r))) (by have := zdT zaI (c :: r); rw [List.length_take]; omega);have l1 : (zbQ zbH (c :: r) : Int) <= r.length + 1 := by have := zdT zbH (c :: r); simp at this; omega
 have l2 : (zbQ zaI (c :: r) : Int) <= r.length + 1 := by have := zdT zaI (c :: r); simp at this; omega
 have l1' : zbQ zbH (c :: r) <= r.length + 1 := by omega
 have l2' : zbQ zaI (c :: r) <= r.length + 1 := by omega
 unfold nextD zd8;cases c1 : zbx c with
 | true =>
  rw [c1] at h1;cases c3 : zeX ((c :: r).take (zbQ zbH (c :: r))) with
  | true =>
   rw [c3] at h5
   (refine Fun.of_body Tryz.func77 rfl (by simp) fun Γ hn => ?_); simp only [entry, ziC, ziN, maC, maN, oA, Tryz.ntmps77]
   repeat' (first
  | ((first | refine zag ?_ | refine zaj ?_ | refine zah ?_ | refine zai ?_ | fail); simp [l1, l1'])
  | ((first | refine zaq ?_ | refine zao ?_ | fail); simp only [zap])
  | (refine CallP.fE (h1) (by first | rfl | fail) (by first | simp [l1, l1'] <;> rfl | fail) ?_; (try simp [l1, l1']))
  | (refine CallP.fE (h3) (by first | rfl | fail) (by first | simp [l1, l1'] <;> rfl | fail) ?_; (try simp [l1, l1']))
  | (refine CallP.fE (h5) (by first | rfl | fail) (by first | simp [l1, l1'] <;> rfl | fail) ?_; (try simp [l1, l1']))
  | fail)
   (refine EndOK.val (.inr rfl) ?_; simp [zaA, zae, zar, Tryz.results77])
   simp [c1, c3]
  | false =>
   rw [c3] at h5
   (refine Fun.of_body Tryz.func77 rfl (by simp) fun Γ hn => ?_); simp only [entry, ziC, ziN, maC, maN, oA, Tryz.ntmps77]
   repeat' (first
  | ((first | refine zag ?_ | refine zaj ?_ | refine zah ?_ | refine zai ?_ | fail); simp [l1, l1'])
  | (refine zaq ?_; simp only [zap])
  | (refine CallP.fE (h1) (by first | rfl | fail) (by first | simp [l1, l1'] <;> rfl | fail) ?_; (try simp [l1, l1']))
  | (refine CallP.fE (h3) (by first | rfl | fail) (by first | simp [l1, l1'] <;> rfl | fail) ?_; (try simp [l1, l1']))
  | (refine CallP.fE (h5) (by first | rfl | fail) (by first | simp [l1, l1'] <;> rfl | fail) ?_; (try simp [l1, l1']))
  | fail)
   (refine EndOK.val (.inr rfl) ?_; simp [zaA, zae, zar, Tryz.results77])
   simp [c1, c3]
 | false =>
  rw [c1] at h1;cases c2 : zaI c with
  | true =>
   rw [c2] at h2;cases c3 : zcO ((c :: r).take (zbQ zaI (c :: r))) with
   | none =>
    rw [c3] at h6
    (refine Fun.of_body Tryz.func77 rfl (by simp) fun Γ hn => ?_); simp only [entry, ziC, ziN, maC, maN, oA, Tryz.ntmps77]
    repeat' (first
  | ((first | refine zag ?_ | refine zaj ?_ | refine zah ?_ | refine zai ?_ | fail); simp [l2, l2'])
  | (refine zaq ?_; simp only [zap])
  | (refine CallP.fE (h1) (by first | rfl | fail) (by first | simp [l2, l2'] <;> rfl | fail) ?_; (try simp [l2, l2']))
  | (refine CallP.fE (h2) (by first | rfl | fail) (by first | simp [l2, l2'] <;> rfl | fail) ?_; (try simp [l2, l2']))
  | (refine CallP.fE (h4) (by first | rfl | fail) (by first | simp [l2, l2'] <;> rfl | fail) ?_; (try simp [l2, l2']))
  | (refine CallP.fE (h6) (by first | rfl | fail) (by first | simp [l2, l2'] <;> rfl | fail) ?_; (try simp [l2, l2']))
  | fail)
    (refine EndOK.val (.inr rfl) ?_; simp [zaA, zae, zar, Tryz.results77])
    simp [c1, c2, c3]
   | some n =>
    rw [c3] at h6
    (refine Fun.of_body Tryz.func77 rfl (by simp) fun Γ hn => ?_); simp only [entry, ziC, ziN, maC, maN, oA, Tryz.ntmps77]
    repeat' (first
  | ((first | refine zag ?_ | refine zaj ?_ | refine zah ?_ | refine zai ?_ | fail); simp [l2, l2'])
  | ((first | refine zaq ?_ | refine zao ?_ | fail); simp only [zap])
  | (refine CallP.fE (h1) (by first | rfl | fail) (by first | simp [l2, l2'] <;> rfl | fail) ?_; (try simp [l2, l2']))
  | (refine CallP.fE (h2) (by first | rfl | fail) (by first | simp [l2, l2'] <;> rfl | fail) ?_; (try simp [l2, l2']))
  | (refine CallP.fE (h4) (by first | rfl | fail) (by first | simp [l2, l2'] <;> rfl | fail) ?_; (try simp [l2, l2']))
  | (refine CallP.fE (h6) (by first | rfl | fail) (by first | simp [l2, l2'] <;> rfl | fail) ?_; (try simp [l2, l2']))
  | fail)
    (refine EndOK.val (.inr rfl) ?_; simp [zaA, zae, zar, Tryz.results77])
    simp [c1, c2, c3]
  | false =>
   rw [c2] at h2
   (refine Fun.of_body Tryz.func77 rfl (by simp) fun Γ hn => ?_); simp only [entry, ziC, ziN, maC, maN, oA, Tryz.ntmps77]
   repeat' (first
  | ((first | refine zag ?_ | refine zaj ?_ | refine zah ?_ | refine zai ?_ | refine zat ?_ | fail); simp [hsl, List.take_of_length_le])
  | (refine zao ?_; simp only [zap])
  | (refine CallP.fE (h1) (by first | rfl | fail) (by first | simp [hsl, List.take_of_length_le] <;> rfl | fail) ?_; (try simp [hsl, List.take_of_length_le]))
  | (refine CallP.fE (h2) (by first | rfl | fail) (by first | simp [hsl, List.take_of_length_le] <;> rfl | fail) ?_; (try simp [hsl, List.take_of_length_le]))
  | fail)
   refine zb8 (α := { i : Nat // i <= 11 /\ ∀ x ∈ signsL.take i, x.isPrefixOf (c :: r) = false }) [0, 2, 3, 43] (fun i => [(44, .u (.int .i64 i.1))]) (fun i => 11 - i.1) ⟨0, by omega, by simp⟩ ?_ ?_
   ·exact (Wk.cut rfl (by simp [hn, St.lp]) (by simp [wkO, St.lp, zaa, getK, Ob.under, D.under, zad, zaf]) (by simp [wkU, St.lp, zan, zaa, getK, D.under]) (by simp [wkE, St.lp, zan, zaa, getK] <;> (try (intros; simp_all; done)) <;> (try (intros; omega)) <;> (try grind)))
   rintro ⟨i, hi, hb⟩;simp [St.lp, St.only, zan, zaa, getK];rcases hx : signsL[i]? with _ | x
   ·have hge : signsL.length <= i := by simpa using hx
    obtain rfl : i = 11 := by rw [hsl] at hge; omega
    have hnone : signsL.find? (fun x => x.isPrefixOf (c :: r)) = none := List.find?_eq_none.2 fun x hx => by
     rw [hb x (by rw [List.take_of_length_le (by rw [hsl]; omega)]; exact hx)]; simp
    repeat' (first
  | ((first | refine zag ?_ | refine zaj ?_ | refine zah ?_ | fail); simp)
  | (refine zaq ?_; simp only [zap])
  | (refine za9 ?_; simp [zap])
  | fail)
    (refine EndOK.val (.inr rfl) ?_; simp [zaA, zae, zar, Tryz.results77])
    simp [c1, c2, hnone]
   ·have hlt : i < 11 := by have := (lGE.1 hx).1; rw [hsl] at this; exact this
    have hlt2 : (i : Int) < 11 := by omega
    have hp := zmS (c :: r) x;by_cases hpx : x.isPrefixOf (c :: r) = true
    ·have hfind : signsL.find? (fun x => x.isPrefixOf (c :: r)) = some x := by
      have e : signsL = signsL.take i ++ x :: signsL.drop (i + 1) := by
       obtain ⟨h5, h6⟩ := lGE.1 hx;rw [<- h6, List.getElem_cons_drop, List.take_append_drop]
      rw [e, List.find?_append, List.find?_eq_none.2 (fun y hy => by rw [hb y hy]; simp), List.find?_cons, hpx];rfl
     rw [hpx] at hp
     repeat' (first
  | ((first | refine zag ?_ | refine zaj ?_ | refine zah ?_ | refine zai ?_ | fail); simp [hx, hsl, hlt2])
  | ((first | refine zaq ?_ | refine zao ?_ | fail); simp only [zap])
  | (refine CallP.fE (hp) (by first | rfl | fail) (by first | simp [hx, hsl, hlt2] <;> rfl | fail) ?_; (try simp [hx, hsl, hlt2]))
  | fail)
     (refine EndOK.val (.inr rfl) ?_; simp [zaA, zae, zar, Tryz.results77])
     simp [c1, c2, hfind]
    ·rw [Bool.eq_false_iff.2 hpx] at hp
     repeat' (first
  | ((first | refine zag ?_ | refine zaj ?_ | fail); simp [hx, hsl, hlt2])
  | (refine ⟨by omega, ?_⟩)
  | ((first | refine zah ?_ | refine zai ?_ | refine zas ?_ | fail); simp [hx, hsl, hlt2])
  | (refine zao ?_; simp only [zap])
  | (refine CallP.fE (hp) (by first | rfl | fail) (by first | simp [hx, hsl, hlt2] <;> rfl | fail) ?_; (try simp [hx, hsl, hlt2]))
  | fail)
     refine LoopW.next ⟨i + 1, by omega, fun y hy => ?_⟩ (by simp; omega) ?_
     ·rw [List.take_succ, hx] at hy;rcases List.mem_append.1 hy with h | h
      ·exact hb y h
      ·simp at h; subst h; exact Bool.eq_false_iff.2 hpx
     ·exact (Wk.cut rfl (by simp [hn, St.lp]) (by simp [wkO, St.lp, zaa, getK, Ob.under, D.under, zad, zaf]) (by simp [wkU, St.lp, zan, zaa, getK, D.under]) (by simp [wkE, St.lp, zan, zaa, getK] <;> (try (intros; simp_all; done)) <;> (try (intros; omega)) <;> (try grind)))
end Go.Proofs.YthnemhfamhnfjaaGreatDoor
namespace Go.Proofs.YthnemhfamhnfjaaGreatDoor
open Go Go.VL
def zht : Nat -> List UInt8 -> Nat -> Except (Nat × Int) (List Tok)
 | 0, _, _ => .ok []
 | f + 1, s, p =>
  match (s.drop (p + zbQ zbi (s.drop p))) with
  | [] => .ok [⟨0, [], 0, ((p + zbQ zbi (s.drop p) : Nat) : Int)⟩]
  | c :: r => match zd8 (c :: r) with
   | .error e => .error (p + zbQ zbi (s.drop p), e)
   | .ok t => match zht f s (p + zbQ zbi (s.drop p) + t.text.length) with
    | .error x => .error x
    | .ok l => .ok ({ t with pos := ((p + zbQ zbi (s.drop p) : Nat) : Int) } :: l)
def zhM (s : List UInt8) : Except (Nat × Int) (List Tok) := if 2000 < s.length then .error (0, 6) else zht (s.length + 1) s 0
def zdY : Except (Nat × Int) (List Tok) -> D
 | .ok l => .tup [.u (.sl (l.map fun t => [.int .i64 t.kind, .str t.text, .int .i64 t.n, .int .i64 t.pos])), .u (.int .i64 0), .u (.int .i64 0)]
 | .error (p, e) => .tup [.u (.sl []), .u (.int .i64 p), .u (.int .i64 e)]
def zhR (acc : List Tok) : Except (Nat × Int) (List Tok) -> Except (Nat × Int) (List Tok)
 | .ok l => .ok (acc ++ l)
 | .error x => .error x
theorem zjT (x) : zhR [] x = x := by cases x <;> simp [zhR]
theorem zjy {p : UInt8 -> Bool} {c : UInt8} {r : List UInt8} (h : p c = true) : 0 < zbQ p (c :: r) := by
 unfold zbQ; rw [List.takeWhile_cons, if_pos h]; simp
theorem zfq {s : List UInt8} {t : Tok} (h : zd8 s = .ok t) : 0 < t.text.length /\ t.text.length <= s.length := by
 unfold zd8 at h;split at h
 ·cases h
 ·rename_i c r;by_cases c1 : zbx c = true
  ·rw [if_pos c1] at h;split at h
   ·cases h;have h1 := zjy (p := zbH) (c := c) (r := r) (by simp [zbH, c1]);have h2 := zdT zbH (c :: r);simp only [List.length_take];omega
   ·cases h
  ·rw [if_neg c1] at h;by_cases c2 : zaI c = true
   ·rw [if_pos c2] at h;split at h
    ·cases h;have h1 := zjy (p := zaI) (c := c) (r := r) c2;have h2 := zdT zaI (c :: r);simp only [List.length_take];omega
    ·cases h
   ·rw [if_neg c2] at h;split at h
    ·rename_i x hx;cases h;have h1 := List.find?_some hx;have h2 := List.mem_of_find?_eq_some hx;refine ⟨?_, (List.isPrefixOf_iff_prefix.1 h1).length_le⟩;simp only [signsL, List.mem_cons, List.not_mem_nil, or_false] at h2;rcases h2 with h | h | h | h | h | h | h | h | h | h | h <;> subst h <;> simp
    ·cases h
def zfW (l : List Tok) : List (List D) := l.map fun t => [.u (.int .i64 t.kind), .u (.str t.text), .u (.int .i64 t.n), .u (.int .i64 t.pos)]
theorem zbn (l : List Tok) : (zfW l).length = l.length := by simp [zfW]
theorem zjt (l : List Tok) : rowsD (l.map fun t => [U.int .i64 t.kind, .str t.text, .int .i64 t.n, .int .i64 t.pos]) = zfW l := by simp [rowsD, zfW, Function.comp_def]
theorem zgY (l : List Tok) : zdG (zfW l) = some (l.map fun t => [U.int .i64 t.kind, .str t.text, .int .i64 t.n, .int .i64 t.pos]) := by rw [<- zjt]; simp
theorem zcM (l) : zaR (zfW l) = True := by rw [<- zjt]; simp
theorem zcv (n : Nat) (l) : (∀ x ∈ zfW l, ∀ y ∈ x, D.under n y = true) ↔ True := by
 refine ⟨fun _ => trivial, fun _ x hx y hy => ?_⟩;obtain ⟨b, _, rfl⟩ := List.mem_map.1 hx;simp at hy;rcases hy with rfl | rfl | rfl | rfl <;> simp [D.under]
end Go.Proofs.YthnemhfamhnfjaaGreatDoor
namespace Go.Proofs.YthnemhfamhnfjaaGreatDoor
open Go Go.VL
theorem zhE {s : List UInt8} (hall : ∀ c ∈ s, zaI c = true) (i : Nat) : ∀ k, i + k <= s.length -> zaK (s.take i) <= zaK (s.take (i + k))
 | 0, _ => Int.le_refl _
 | k + 1, h => by
  have h1 := zhE hall i k (by omega);have hlt : i + k < s.length := by omega
  have hx : s[i + k]? = some s[i + k] := List.getElem?_eq_getElem hlt;have hd := hall _ (List.getElem_mem hlt);simp only [zaI, Bool.and_eq_true, decide_eq_true_eq] at hd;have hr := (zdF _ (s.take (i + k)) rfl (fun x hx => hall x (List.mem_of_mem_take hx))).1;rw [<- nAA, List.take_succ, hx];show _ <= zaK (s.take (i + k) ++ [s[i + k]]);rw [zcH];omega
theorem zij : ∀ (n : Nat) (c : UInt8) (s : List UInt8), s.length = n -> zaI c = true -> c ≠ 48 -> (∀ x ∈ s, zaI x = true) -> 10 ^ n <= zaK (c :: s)
 | 0, c, s, h, hc, h48, _ => by
  have := List.eq_nil_of_length_eq_zero h;subst this;simp only [zaI, Bool.and_eq_true, decide_eq_true_eq] at hc;have : c.toNat ≠ 48 := fun e => h48 (UInt8.toNat_inj.1 e);simp [zaK]; omega
 | n + 1, c, s, h, hc, h48, hd => by
  have hne : s ≠ [] := fun e => by rw [e] at h; simp at h
  obtain ⟨t, d, rfl⟩ : ∃ t d, s = t ++ [d] := ⟨s.dropLast, s.getLast hne, (List.dropLast_concat_getLast hne).symm⟩;have h1 := zij n c t (by simpa using h) hc h48 (fun x hx => hd x (by simp [hx]));have h2 := hd d (by simp);simp only [zaI, Bool.and_eq_true, decide_eq_true_eq] at h2;rw [<- List.cons_append, zcH, Int.pow_succ];omega
theorem zm1 {s : List UInt8} (hall : ∀ c ∈ s, zaI c = true) (hne : s ≠ []) : zcO s = if (s.head? = some 48 /\ s ≠ [48]) \/ 1099511627776 < zaK s then none else some (zaK s) := by
 have hsp : zbQ zaI s = s.length := zdU (i := s.length) (fun c hc => hall c (List.mem_of_mem_take hc)) (Nat.le_refl _) (.inl rfl);unfold zcO;by_cases h0 : s.head? = some 48 /\ s ≠ [48]
 ·rw [if_pos (.inr (.inr (.inl h0))), if_pos (.inl h0)]
 by_cases h13 : 13 < s.length
 ·have : 1099511627776 < zaK s := by
   cases s with
   | nil => exact absurd rfl hne
   | cons c t =>
    have hc48 : c ≠ 48 := fun e => h0 ⟨by rw [e]; rfl, fun h => by rw [h] at h13; simp at h13⟩;have h1 := zij t.length c t rfl (hall c (by simp)) hc48 (fun x hx => hall x (by simp [hx]));have h2 : (10 : Int) ^ 13 <= 10 ^ t.length := by
     have := Nat.pow_le_pow_right (n := 10) (by omega) (show 13 <= t.length by simp at h13; omega)
     exact_mod_cast this
    have h3 : (10 : Int) ^ 13 = 10000000000000 := by decide
    omega
  rw [if_pos (.inr (.inr (.inr h13))), if_pos (.inr this)]
 rw [if_neg (fun h => h.elim hne (fun h => h.elim (fun h => h hsp) (fun h => h.elim h0 h13)))];by_cases hb : 1099511627776 < zaK s
 ·rw [if_pos hb, if_pos (.inr hb)]
 ·rw [if_neg hb, if_neg (fun h => h.elim h0 hb)]
def onesS : List UInt8 := [59, 44, 61, 60, 43, 45, 42, 47, 40, 41]
def zd5 (c : UInt8) (r : List UInt8) : Nat := if c = 61 /\ r.head? = some 61 then 2 else if c ∈ onesS then 1 else 0
theorem znV (c : UInt8) (r : List UInt8) : signsL.find? (fun x => x.isPrefixOf (c :: r)) = if zd5 c r = 0 then none else some ((c :: r).take (zd5 c r)) := by
 by_cases h2 : c = 61 /\ r.head? = some 61
 ·obtain ⟨rfl, h⟩ := h2;cases r with
  | nil => cases h
  | cons d r => cases h; simp [zd5, signsL, List.isPrefixOf]
 ·have h1 : ([61, 61] : List UInt8).isPrefixOf (c :: r) = false := by
   cases r with
   | nil => simp [List.isPrefixOf]
   | cons d r =>
    simp only [List.isPrefixOf, Bool.and_true, Bool.and_eq_false_iff, beq_eq_false_iff_ne];by_cases hc : c = 61
    ·exact .inr fun e => h2 ⟨hc, by rw [<- e]; rfl⟩
    ·exact .inl fun e => hc e.symm
  unfold zd5;rw [if_neg h2, signsL, List.find?_cons, h1];simp only;by_cases hm : c ∈ onesS
  ·rw [if_pos hm];simp only [onesS, List.mem_cons, List.mem_nil_iff, or_false] at hm;rcases hm with rfl | rfl | rfl | rfl | rfl | rfl | rfl | rfl | rfl | rfl <;> simp [List.isPrefixOf, List.find?_cons]
  ·rw [if_neg hm];simp only [if_true];rw [List.find?_eq_none];intro x hx hp;have hx1 : ∃ a, x = [a] /\ a ∈ onesS := by
    simp only [List.mem_cons, List.mem_nil_iff, or_false] at hx;rcases hx with rfl | rfl | rfl | rfl | rfl | rfl | rfl | rfl | rfl | rfl <;> exact ⟨_, rfl, by decide⟩
   obtain ⟨a, rfl, ha⟩ := hx1;simp [List.isPrefixOf] at hp;exact hm (hp ▸ ha)
end Go.Proofs.YthnemhfamhnfjaaGreatDoor
namespace Go.Proofs.YthnemhfamhnfjaaGreatDoor
open Go Go.VL
abbrev zbf (l : List Tok) : U := .sl (l.map fun t => [.int .i64 t.kind, .str t.text, .int .i64 t.n, .int .i64 t.pos])
abbrev pOb (l : List Tok) (p : Nat) : Ob := .box [.u (zbf l), .u (.int .i64 p)]
abbrev zqH (l : List Tok) (p : Nat) : U := .row [zbf l, .int .i64 p] 0
structure TokOK (l : List Tok) : Prop where
 fin : ∀ (i : Nat) (t : Tok), l[i]? = some t -> t.kind ≠ 0 -> i + 1 < l.length
 len : l.length <= 1000000
def isB (l : List Tok) (p : Nat) (w : List UInt8) : Bool := match l[p]? with | some t => decide (t.kind ≠ 0) && decide (t.text = w) | none => false
theorem zaO {l : List Tok} {p : Nat} {w : List UInt8} (hl : TokOK l) (h : isB l p w = true) : p + 1 < l.length := by
 unfold isB at h;split at h
 ·rename_i t ht;simp only [Bool.and_eq_true, decide_eq_true_eq] at h;exact hl.fin p t ht h.1
 ·cases h
end Go.Proofs.YthnemhfamhnfjaaGreatDoor
namespace Go.Proofs.YthnemhfamhnfjaaGreatDoor
open Go Go.VL
theorem zk4 {s : List UInt8} {p : Nat} {c : UInt8} (h : s[p]? = some c) (hb : zbi c = true) : p + zbQ zbi (s.drop p) = p + 1 + zbQ zbi (s.drop (p + 1)) := by
 obtain ⟨hp, hx⟩ := lGE.1 h;rw [List.drop_eq_getElem_cons hp, hx];unfold zbQ;rw [List.takeWhile_cons, if_pos hb, List.length_cons];omega
theorem znS {s : List UInt8} {p : Nat} {c : UInt8} {r : List UInt8} (h : s.drop p = c :: r) (hb : zbi c = false) : zbQ zbi (s.drop p) = 0 := by
 rw [h];unfold zbQ;rw [List.takeWhile_cons, if_neg (by simp [hb])];rfl
theorem zm7 {f : Nat} {s : List UInt8} {p : Nat} {c : UInt8} (h : s[p]? = some c) (hb : zbi c = true) : zht (f + 1) s p = zht (f + 1) s (p + 1) := by
 have e := zk4 h hb;rw [zht, zht, e]
end Go.Proofs.YthnemhfamhnfjaaGreatDoor
namespace Go.Proofs.YthnemhfamhnfjaaGreatDoor
open Go Go.VL
noncomputable def eqB {α : Type} (a b : α) : Bool := @decide (a = b) (Classical.propDecidable _)
theorem zcD {α : Type} {a b : α} : eqB a b = true ↔ a = b := by unfold eqB; exact @decide_eq_true_iff _ (Classical.propDecidable _)
theorem zfc {α : Type} (a : α) : eqB a a = true := zcD.2 rfl
theorem zek {α : Type} {a b : α} (h : a ≠ b) : eqB a b = false := by
 cases hb : eqB a b with
 | false => rfl
 | true => exact absurd (zcD.1 hb) h
end Go.Proofs.YthnemhfamhnfjaaGreatDoor
namespace Go.Proofs.YthnemhfamhnfjaaGreatDoor
open Go Go.VL
attribute [local simp] HS zdS zcz evPure opd uOf zaN St.put St.at getK binD binI binS binB nilD aggD zjm zkZ lookD lookR zdv Go.VL.nextD zdz zlv zk0 zid zc5 mkV zep zbT zb7 mapEff zfk zhO Key.kk shiftI arith unD convD zfC loadD cellsAt fieldAddrD fieldD indexAddrD indexD sliceD cutD lenD minmaxD nilCheckD buildD fillD zcs zd9 zf2 setAll zdC zgj zdo zkH zde St.add za8 zct rowsOf ze5 zdq zal zac zaa zbK zd4 zbo entry zcb zck valD zcB zc6 zjf zen zeo zcw zch zaE zba zbX delAll effD St.effS zeq zbM zbs zer zbN zbu zc7 zbt zbg zc8 zeb zcu zc0 zb1 zcY zcZ zaL mkD zcp zce zcg zaE zdk D.ids Op.operands Call.operands zcq makeIfD makeFuncD typeAssertD zkY zeT zeU zkV zdx IntKind.bits zdG List.take_of_length_le List.range_succ
attribute [local irreducible] V G H HD HD2 HD4 znD RetX zap Eff CallP CallV EndOK Fun Ret FinOK LoopI LoopW EndW
theorem zmR (c : UInt8) : Fun Tryz.prog 86 [.u (.int .u8 c.toNat)] (· = .u (.bool (zbi c))) := by
 unfold zbi
 (refine Fun.of_body Tryz.func86 rfl (by simp) fun Γ hn => ?_); simp only [entry, ziC, ziN, maC, maN, oA, Tryz.ntmps86]
 repeat' (first
  | ((first | refine zag ?_ | refine zaj ?_ | refine zah ?_ | fail); simp)
  | (refine zaq ?_; simp only [zap])
  | (refine ⟨fun hc => ?_, fun hc => ?_⟩ <;> (try (exfalso; omega)))
  | fail)
 all_goals
  (refine EndOK.val (.inr rfl) ?_; simp [zaA, zae, zar, Tryz.results86])
 all_goals first | omega | (rw [Bool.eq_iff_iff]; simp; omega) | (simp; omega)
theorem zk9 (s : List UInt8) (hall : ∀ c ∈ s, zaI c = true) (hne : s ≠ []) (hl : s.length <= 2000) : Fun Tryz.prog 130 [.u (.str s)] (· = .tup [.u (.int .i64 ((zcO s).getD 0)), .u (.bool (zcO s).isSome)]) := by
 rw [zm1 hall hne];obtain ⟨c0, t0, hs0⟩ : ∃ c t, s = c :: t := by cases s with | nil => exact absurd rfl hne | cons c t => exact ⟨c, t, rfl⟩
 have h00 : s[0]? = some c0 := by rw [hs0]; rfl
 have hlen1 : ¬ (s.length : Int) < 1 := by rw [hs0]; simp; omega
 have hlen1' : 0 < s.length := by rw [hs0]; simp
 have hr : ∀ i, i <= s.length -> 0 <= zaK (s.take i) := fun i hi => (zdF _ (s.take i) rfl (fun x hx => hall x (List.mem_of_mem_take hx))).1;have zcz : ∀ i a, s[i]? = some a -> zaK (s.take (i + 1)) = 10 * zaK (s.take i) + ((a.toNat : Int) - 48) := fun i a hx => by
  rw [List.take_succ, hx]; exact zcH _ _
 (refine Fun.of_body Tryz.func130 rfl (by simp) fun Γ hn => ?_); simp only [entry, ziC, ziN, maC, maN, oA, Tryz.ntmps130]
 repeat' (first
  | ((first | refine zag ?_ | refine zaj ?_ | refine zah ?_ | refine zat ?_ | fail); simp)
  | fail)
 refine zb8 (α := { i : Nat // i <= s.length /\ ∀ j, j < i -> zaK (s.take j) <= 1099511627776 }) [0] (fun i => [(4, .u (.int .i64 (zaK (s.take i.1)))), (5, .u (.int .i64 i.1))]) (fun i => s.length - i.1) ⟨0, by omega, fun j h => by omega⟩ ?_ ?_
 ·exact (Wk.cut rfl (by simp [hn, St.lp]) (by simp [wkO, St.lp, zaa, getK, Ob.under, D.under, zad, zaf, zaK]) (by simp [wkU, St.lp, zan, zaa, getK, D.under, zaK]) (by simp [wkE, St.lp, zan, zaa, getK, zaK] <;> (try (intros; simp_all; done)) <;> (try (intros; omega)) <;> (try grind)))
 rintro ⟨i, hi, hbj⟩;have hbi : zaK (s.take i) <= 10995116277769 := by
  cases i with
  | zero => simp [zaK]
  | succ i =>
   obtain ⟨a, ha⟩ : ∃ a, s[i]? = some a := ⟨_, List.getElem?_eq_getElem (by omega)⟩;have h1 := hbj i (by omega);have h2 := hall a (List.mem_of_getElem? ha);simp only [zaI, Bool.and_eq_true, decide_eq_true_eq] at h2;rw [zcz i a ha];omega
 simp [St.lp, St.only, zan, zaa, getK];have hri := hr i hi;rcases hx : s[i]? with _ | a
 ·have hge : s.length <= i := by simpa using hx
  obtain rfl : i = s.length := by omega
  simp only [List.take_length] at hbi hri ⊢;by_cases hz : s.head? = some 48 /\ s ≠ [48]
  ·have hc48 : c0 = 48 := by have := hz.1; rw [hs0] at this; simpa using this
   have hc48' : (c0.toNat : Int) = 48 := by rw [hc48]; rfl
   have hc48n : c0.toNat = 48 := by rw [hc48]; rfl
   have h1 : (1 : Int) < s.length := by
    have : t0 ≠ [] := fun e => hz.2 (by rw [hs0, e, hc48]);rw [hs0]; have := List.length_pos_iff.2 this; simp; omega
   have h1' : 1 < s.length := by omega
   rw [if_pos (.inl hz)]
   repeat' (first
  | ((first | refine zag ?_ | refine zaj ?_ | refine zah ?_ | refine zai ?_ | fail); simp [hx, hlen1, h00, h1, hc48', hc48n])
  | (refine zaq ?_; simp only [zap])
  | (refine za9 ?_; simp [zap])
  | fail)
   (refine EndOK.val (.inr rfl) ?_; simp [zaA, zae, zar, Tryz.results130])
  ·by_cases hb : 1099511627776 < zaK s
   ·rw [if_pos (.inr hb)];by_cases h1 : (1 : Int) < s.length
    ·have h1' : 1 < s.length := by omega
     have hc48 : ¬ c0.toNat = 48 := fun e => hz ⟨by rw [hs0]; simp; exact UInt8.toNat_inj.1 e, fun e => by rw [e] at h1'; simp at h1'⟩
     repeat' (first
  | ((first | refine zag ?_ | refine zaj ?_ | refine zah ?_ | refine zai ?_ | fail); simp [hx, hlen1, h00, h1, hc48, hb])
  | (refine zaq ?_; simp only [zap])
  | (refine za9 ?_; simp [zap])
  | (refine ⟨?_, by omega⟩)
  | (intro hc <;> (try (exfalso; omega)))
  | fail)
     (refine EndOK.val (.inr rfl) ?_; simp [zaA, zae, zar, Tryz.results130])
    ·have h1' : ¬ 1 < s.length := by omega
     repeat' (first
  | ((first | refine zag ?_ | refine zaj ?_ | refine zah ?_ | refine zai ?_ | fail); simp [hx, hlen1, h00, h1, hb])
  | (refine zaq ?_; simp only [zap])
  | (refine za9 ?_; simp [zap])
  | fail)
     (refine EndOK.val (.inr rfl) ?_; simp [zaA, zae, zar, Tryz.results130])
   ·rw [if_neg (fun h => h.elim hz hb)];by_cases h1 : (1 : Int) < s.length
    ·have h1' : 1 < s.length := by omega
     have hc48 : ¬ c0.toNat = 48 := fun e => hz ⟨by rw [hs0]; simp; exact UInt8.toNat_inj.1 e, fun e => by rw [e] at h1'; simp at h1'⟩
     repeat' (first
  | ((first | refine zag ?_ | refine zaj ?_ | refine zah ?_ | refine zai ?_ | fail); simp [hx, hlen1, h00, h1, hc48, hb])
  | ((first | refine zaq ?_ | refine zao ?_ | fail); simp only [zap])
  | (refine za9 ?_; simp [zap])
  | (refine ⟨?_, by omega⟩)
  | (intro hc <;> (try (exfalso; omega)))
  | fail)
     (refine EndOK.val (.inr rfl) ?_; simp [zaA, zae, zar, Tryz.results130])
    ·have h1' : ¬ 1 < s.length := by omega
     repeat' (first
  | ((first | refine zag ?_ | refine zaj ?_ | refine zah ?_ | refine zai ?_ | fail); simp [hx, hlen1, h00, h1, hb])
  | ((first | refine zaq ?_ | refine zao ?_ | fail); simp only [zap])
  | (refine za9 ?_; simp [zap])
  | fail)
     (refine EndOK.val (.inr rfl) ?_; simp [zaA, zae, zar, Tryz.results130])
 ·have hlt : i < s.length := (lGE.1 hx).1;have hlt2 : (i : Int) < s.length := by omega
  have hda := hall a (List.mem_of_getElem? hx);have hd := zed a;rw [hda] at hd;simp only [zaI, Bool.and_eq_true, decide_eq_true_eq] at hda;by_cases hb : 1099511627776 < zaK (s.take i)
  ·have hm := zhE hall i (s.length - i) (by omega);rw [show i + (s.length - i) = s.length by omega, List.take_length] at hm;rw [if_pos (.inr (by omega))]
   repeat' (first
  | ((first | refine zag ?_ | refine zaj ?_ | refine zah ?_ | refine zai ?_ | fail); simp [hx, hlt2, hb])
  | ((first | refine zaq ?_ | refine zao ?_ | fail); simp only [zap])
  | (refine CallP.fE (hd) (by first | rfl | fail) (by first | simp [hx, hlt2, hb] <;> rfl | fail) ?_; (try simp [hx, hlt2, hb]))
  | fail)
   (refine EndOK.val (.inr rfl) ?_; simp [zaA, zae, zar, Tryz.results130])
  ·have hsn := zcz i a hx;have hnb : ¬ 1099511627776 < zaK (s.take i) := hb;generalize hdv : zaK (s.take i) = dv at hsn hbi hri hb ⊢;have hsn3 : zaK (s.take (i + 1)) = 10 * dv + (a.toNat : Int) - 48 := by rw [hsn]; omega
   clear hsn
   repeat' (first
  | ((first | refine zag ?_ | refine zaj ?_ | fail); simp [hx, hlt2, hnb])
  | (refine ⟨by omega, ?_⟩)
  | ((first | refine zah ?_ | refine zai ?_ | refine zas ?_ | fail); simp [hx, hlt2, hnb])
  | (refine zao ?_; simp only [zap])
  | (intro hc <;> (try (exfalso; omega)))
  | (refine CallP.fE (hd) (by first | rfl | fail) (by first | simp [hx, hlt2, hnb] <;> rfl | fail) ?_; (try simp [hx, hlt2, hnb]))
  | fail)
   refine LoopW.next ⟨i + 1, hlt, fun j hj => ?_⟩ (by simp; omega) ?_
   ·by_cases hji : j = i
    ·subst hji; rw [hdv]; omega
    ·exact hbj j (by omega)
   exact (Wk.env rfl rfl rfl (by simp [wkE, St.lp, zan, zaa, getK, hsn3] <;> (try (intros; simp_all; done)) <;> (try (intros; omega)) <;> (try grind)))
theorem znY (s : List UInt8) (p : Nat) (c : UInt8) (r : List UInt8) (hd : s.drop p = c :: r) (hl : s.length <= 2000) : Fun Tryz.prog 131 [.u (.str s), .u (.int .i64 p)] (· = .u (.int .i64 (zd5 c r))) := by
 have hlen : s.length - p = r.length + 1 := by rw [<- List.length_drop, hd]; rfl
 have hc : s[p]? = some c := by have := congrArg (fun l => l[0]?) hd; simpa using this
 have hr1 : s[p + 1]? = r.head? := by
  have := congrArg (fun l => l[1]?) hd;simp only [List.getElem?_drop, List.getElem?_cons_succ] at this;rw [this, List.head?_eq_getElem?]
 have hpl : p < s.length := by omega
 have hpl2 : (p : Int) < s.length := by omega
 have hp0 : ¬ (p : Int) < 0 := by omega
 by_cases h2 : c = 61 /\ r.head? = some 61
 ·have hk : zd5 c r = 2 := by rw [zd5, if_pos h2]
  rw [hk];obtain ⟨rfl, h⟩ := h2;rw [h] at hr1;have hlt : p + 1 < s.length := (lGE.1 hr1).1;have hlt2 : (p : Int) + 1 < s.length := by omega
  (refine Fun.of_body Tryz.func131 rfl (by simp) fun Γ hn => ?_); simp only [entry, ziC, ziN, maC, maN, oA, Tryz.ntmps131]
  repeat' (first
  | ((first | refine zag ?_ | refine zaj ?_ | fail); simp [hc, hr1, hlt2])
  | (refine ⟨by omega, ?_⟩)
  | ((first | refine zah ?_ | refine zai ?_ | fail); simp [hc, hr1, hlt2])
  | (refine zaq ?_; simp only [zap])
  | fail)
  (refine EndOK.val (.inr rfl) ?_; simp [zaA, zae, zar, Tryz.results131])
 ·have hloop : ∀ x : Nat, zd5 c r = x -> x = (if c ∈ onesS then 1 else 0) := fun x hx => by rw [<- hx, zd5, if_neg h2]
  obtain ⟨K, hK⟩ : ∃ K, zd5 c r = K := ⟨_, rfl⟩;rw [hK];have hK2 := hloop K hK;clear hloop hK
  (refine Fun.of_body Tryz.func131 rfl (by simp) fun Γ hn => ?_); simp only [entry, ziC, ziN, maC, maN, oA, Tryz.ntmps131]
  apply zgI (S := { n := 38, env := [(0, .u (.str s)), (1, .u (.int .i64 p)), (5, .u (.str onesS)), (6, .u (.int .i64 0))], obs := [], next := 0 })
  case main =>
   intro key;rcases hr2 : r.head? with _ | d
   ·rw [hr2] at hr1
    have hge : ¬ (p : Int) + 1 < s.length := by have : s.length ≤ p + 1 := by simpa using hr1
                                                omega
    repeat' (first
  | (refine zfH _ ?_ key; refine Wk.cut rfl ?_ ?_ ?_ ?_; all_goals (first | (simp [hn]; done) | (simp [wkO, zaa, getK, zab, zac, Ob.under, D.under, zad, zaf, onesS]; done) | (simp [wkU, zan, zaa, getK, D.under, onesS]; done) | (simp [wkE, zan, zaa, getK, onesS]; done) | fail))
  | ((first | refine zag ?_ | refine zaj ?_ | fail); simp [hc, hr1, hge])
  | (refine ⟨by omega, ?_⟩)
  | ((first | refine zah ?_ | refine zai ?_ | fail); simp [hc, hr1, hge])
  | (refine zao ?_; simp only [zap])
  | fail)
   ·rw [hr2] at hr1;have hlt : p + 1 < s.length := (lGE.1 hr1).1;have hlt2 : (p : Int) + 1 < s.length := by omega
    by_cases hd61 : d = 61
    ·have hc61 : ¬ c.toNat = 61 := fun e => h2 ⟨UInt8.toNat_inj.1 e, by rw [hr2, hd61]⟩;have hd61' : d.toNat = 61 := by rw [hd61]; rfl
     repeat' (first
  | (refine zfH _ ?_ key; refine Wk.cut rfl ?_ ?_ ?_ ?_; all_goals (first | (simp [hn]; done) | (simp [wkO, zaa, getK, zab, zac, Ob.under, D.under, zad, zaf, onesS]; done) | (simp [wkU, zan, zaa, getK, D.under, onesS]; done) | (simp [wkE, zan, zaa, getK, onesS]; done) | fail))
  | ((first | refine zag ?_ | refine zaj ?_ | fail); simp [hc, hr1, hlt2, hd61', hc61])
  | (refine ⟨by omega, ?_⟩)
  | ((first | refine zah ?_ | refine zai ?_ | fail); simp [hc, hr1, hlt2, hd61', hc61])
  | (refine zao ?_; simp only [zap])
  | (intro hc <;> (try (exfalso; omega)))
  | fail)
    ·have hd61' : ¬ d.toNat = 61 := fun e => hd61 (UInt8.toNat_inj.1 e)
     repeat' (first
  | (refine zfH _ ?_ key; refine Wk.cut rfl ?_ ?_ ?_ ?_; all_goals (first | (simp [hn]; done) | (simp [wkO, zaa, getK, zab, zac, Ob.under, D.under, zad, zaf, onesS]; done) | (simp [wkU, zan, zaa, getK, D.under, onesS]; done) | (simp [wkE, zan, zaa, getK, onesS]; done) | fail))
  | ((first | refine zag ?_ | refine zaj ?_ | fail); simp [hc, hr1, hlt2, hd61'])
  | (refine ⟨by omega, ?_⟩)
  | ((first | refine zah ?_ | refine zai ?_ | fail); simp [hc, hr1, hlt2, hd61'])
  | (refine zao ?_; simp only [zap])
  | (intro hc <;> (try (exfalso; omega)))
  | fail)
  case key =>
  repeat' (first
  | (refine zat ?_; simp)
  | fail)
  refine zb8 (α := { i : Nat // i <= 10 /\ ∀ x ∈ onesS.take i, x ≠ c }) [0, 1, 5] (fun i => [(6, .u (.int .i64 i.1))]) (fun i => 10 - i.1) ⟨0, by omega, by simp⟩ ?_ ?_
  ·exact (Wk.cut rfl (by simp [hn, St.lp]) (by simp [wkO, St.lp, zaa, getK, Ob.under, D.under, zad, zaf]) (by simp [wkU, St.lp, zan, zaa, getK, D.under]) (by simp [wkE, St.lp, zan, zaa, getK] <;> (try (intros; simp_all; done)) <;> (try (intros; omega)) <;> (try grind)))
  rintro ⟨i, hi, hb⟩;simp [St.lp, St.only, zan, zaa, getK];rcases hx : onesS[i]? with _ | a
  ·have hge : 10 <= i := by simpa [onesS] using hx
   obtain rfl : i = 10 := by omega
   have hn : c ∉ onesS := fun h => hb c (by simpa [onesS] using h) rfl;rw [if_neg hn] at hK2;subst hK2
   repeat' (first
  | ((first | refine zag ?_ | refine zaj ?_ | refine zah ?_ | refine zai ?_ | fail); simp [show onesS.length = 10 from rfl])
  | (refine zaq ?_; simp only [zap])
  | (refine za9 ?_; simp [zap])
  | fail)
   (refine EndOK.val (.inr rfl) ?_; simp [zaA, zae, zar, Tryz.results131])
  ·have hlt : i < 10 := by have := (lGE.1 hx).1; simpa [onesS] using this
   have hlt2 : (i : Int) < 10 := by omega
   by_cases hac : a = c
   ·have hm : c ∈ onesS := by rw [<- hac]; exact List.mem_of_getElem? hx
    rw [if_pos hm] at hK2;subst hK2;subst hac
    repeat' (first
  | ((first | refine zag ?_ | refine zaS rfl ?_ | refine zaj ?_ | refine zah ?_ | refine zai ?_ | fail); simp [show onesS.length = 10 from rfl, hx, hc, hpl2, hlt2])
  | (refine za0 (hC _ (by kernel_rfl)) (hk _ ?_); clear hC hk C k; simp only [zap])
  | (refine za3 rfl (by kernel_rfl) (by first | (simp [hn]; done) | (simp [hn]; omega) | fail) fun C k hC hk => ?_; simp [show onesS.length = 10 from rfl, hx, hc, hpl2, hlt2])
  | ((first | refine zaq ?_ | refine zao ?_ | fail); simp only [zap])
  | fail)
    (refine EndOK.val (.inr rfl) ?_; simp [zaA, zae, zar, Tryz.results131])
   ·have hac' : ¬ c.toNat = a.toNat := fun e => hac (UInt8.toNat_inj.1 e.symm)
    repeat' (first
  | ((first | refine zag ?_ | refine zaS rfl ?_ | refine zaj ?_ | fail); simp [show onesS.length = 10 from rfl, hx, hc, hpl2, hlt2, hac'])
  | (refine ⟨by omega, ?_⟩)
  | ((first | refine zah ?_ | refine zai ?_ | fail); simp [show onesS.length = 10 from rfl, hx, hc, hpl2, hlt2, hac'])
  | (refine za0 (hC _ (by kernel_rfl)) (hk _ ?_); clear hC hk C k; simp only [zap])
  | (refine za3 rfl (by kernel_rfl) (by first | (simp [hn]; done) | (simp [hn]; omega) | fail) fun C k hC hk => ?_; simp [show onesS.length = 10 from rfl, hx, hc, hpl2, hlt2, hac'])
  | (refine zas ?_; simp [show onesS.length = 10 from rfl, hx, hc, hpl2, hlt2, hac'])
  | (refine zao ?_; simp only [zap])
  | (intro hc <;> (try (exfalso; omega)))
  | fail)
    refine LoopW.next ⟨i + 1, by omega, fun x hx' => ?_⟩ (by simp; omega) ?_
    ·rw [List.take_succ, hx] at hx';rcases List.mem_append.1 hx' with h | h
     ·exact hb x h
     ·simp at h; subst h; exact hac
    exact (Wk.cut rfl (by simp [hn, St.lp]) (by simp [wkO, St.lp, zaa, getK, Ob.under, D.under, zad, zaf]) (by simp [wkU, St.lp, zan, zaa, getK, D.under]) (by simp [wkE, St.lp, zan, zaa, getK] <;> (try (intros; simp_all; done)) <;> (try (intros; omega)) <;> (try grind)))
theorem zmI (s : List UInt8) (p : Nat) (c : UInt8) (r : List UInt8) (hd : s.drop p = c :: r) (hl : s.length <= 2000) : Fun Tryz.prog 87 [.u (.str s), .u (.int .i64 p)]
  (· = match zd8 (c :: r) with | .ok t => .tup [.u (.agg [.int .i64 t.kind, .str t.text, .int .i64 t.n, .int .i64 p]), .u (.int .i64 0)] | .error e => .tup [.u (.agg [.int .i64 0, .str [], .int .i64 0, .int .i64 0]), .u (.int .i64 e)]) := by
 have hlen : s.length - p = r.length + 1 := by rw [<- List.length_drop, hd]; rfl
 have hc : s[p]? = some c := by have := congrArg (fun l => l[0]?) hd; simpa using this
 have hpl : p < s.length := by omega
 have hpl2 : (p : Int) < s.length := by omega
 have hat : ∀ e, p <= e -> s[e]? = (c :: r)[e - p]? := fun e he => by
  rw [<- hd, List.getElem?_drop, show p + (e - p) = e by omega]
 have htk : ∀ e, p <= e -> e <= s.length -> (s.take e).drop p = (c :: r).take (e - p) := fun e he _ => by
  rw [<- hd, List.drop_take]
 have h1 := zex c;have h2 := zed c;cases c1 : zbx c with
 | true =>
  rw [c1] at h1;have hw1 : zbH c = true := by simp [zbH, c1]
  (refine Fun.of_body Tryz.func87 rfl (by simp) fun Γ hn => ?_); simp only [entry, ziC, ziN, maC, maN, oA, Tryz.ntmps87]
  repeat' (first
  | ((first | refine zag ?_ | refine zaj ?_ | fail); simp [hc, hpl2])
  | (refine ⟨by omega, ?_⟩)
  | ((first | refine zah ?_ | refine zai ?_ | fail); simp [hc, hpl2])
  | (refine CallP.fE (h1) (by first | rfl | fail) (by first | simp [hc, hpl2] <;> rfl | fail) ?_; (try simp [hc, hpl2]))
  | fail)
  refine zb8 (α := { e : Nat // p + 1 <= e /\ e <= s.length /\ ∀ x ∈ (c :: r).take (e - p), zbH x = true }) [0, 1, 4] (fun e => [(6, .u (.int .i64 e.1))]) (fun e => s.length - e.1) ⟨p + 1, by omega, by omega, by rw [show p + 1 - p = 1 by omega]; simpa using hw1⟩ ?_ ?_
  ·exact (Wk.env rfl rfl rfl (by simp [wkE, St.lp, zan, zaa, getK] <;> (try (intros; simp_all; done)) <;> (try (intros; omega)) <;> (try grind)))
  rintro ⟨e, he1, he2, he3⟩;simp [St.lp, St.only, zan, zaa, getK];have hxe := hat e (by omega);have stop : (e = s.length \/ ∃ y, (c :: r)[e - p]? = some y /\ zbH y = false) -> zbQ zbH (c :: r) = e - p := fun h => by
   refine zdU he3 (by simp; omega) ?_;rcases h with h | h
   ·exact .inl (by simp; omega)
   ·exact .inr h
  have fin : zbQ zbH (c :: r) = e - p -> (zd8 (c :: r) = if 20 < (e : Int) - p then .error 13 else .ok ⟨1, (s.take e).drop p, 0, 0⟩) := fun h => by
   have htl : ((c :: r).take (e - p)).length = e - p := by rw [List.length_take]; simp; omega
   have hsp2 : zbQ (fun c => zbx c || zaI c) ((c :: r).take (e - p)) = e - p := by
    refine zdU (p := zbH) (l := (c :: r).take (e - p)) (i := e - p) (fun x hx => he3 x (List.mem_of_mem_take hx)) (by omega) (.inl htl.symm)
   have hwb : zeX ((c :: r).take (e - p)) = decide (e - p <= 20) := by
    obtain ⟨m, hm⟩ : ∃ m, e - p = m + 1 := ⟨e - p - 1, by omega⟩;rw [hm] at htl hsp2 ⊢;rw [List.take_succ_cons] at htl hsp2 ⊢;rw [zeX, c1, htl, hsp2]; simp
   unfold zd8;simp only [c1, if_true];rw [h, hwb, htk e (by omega) he2];by_cases hb : e - p <= 20
   ·rw [if_pos (by simpa using hb), if_neg (by omega)]
   ·rw [if_neg (by simpa using hb), if_pos (by omega)]
  have hpe : (p : Int) <= e := by omega
  rcases hx : s[e]? with _ | y
  ·have hge : ¬ (e : Int) < s.length := by have : s.length ≤ e := by simpa using hx
                                           omega
   have hf := fin (stop (.inl (by omega)));by_cases hb : 20 < (e : Int) - p
   ·rw [hf, if_pos hb]
    repeat' (first
  | ((first | refine zag ?_ | refine zaj ?_ | fail); simp [hx, hge, hb])
  | (refine ⟨by omega, ?_⟩)
  | ((first | refine zah ?_ | refine zai ?_ | fail); simp [hx, hge, hb])
  | (refine zaq ?_; simp only [zap])
  | (refine za9 ?_; simp [zap])
  | fail)
    (refine EndOK.val (.inr rfl) ?_; simp [zaA, zae, zar, Tryz.results87])
   ·rw [hf, if_neg hb]
    repeat' (first
  | ((first | refine zag ?_ | refine zaj ?_ | fail); simp [hx, hge, hb, hpe])
  | (refine ⟨by omega, ?_⟩)
  | ((first | refine zah ?_ | refine zai ?_ | fail); simp [hx, hge, hb, hpe])
  | ((first | refine zaq ?_ | refine zao ?_ | fail); simp only [zap])
  | (refine za9 ?_; simp [zap])
  | fail)
    (refine EndOK.val (.inr rfl) ?_; simp [zaA, zae, zar, Tryz.results87])
  ·have hlt : e < s.length := (lGE.1 hx).1;have hlt2 : (e : Int) < s.length := by omega
   have g1 := zex y;have g2 := zed y;cases hwy : zbH y with
   | true =>
    cases hly : zbx y with
    | true =>
     rw [hly] at g1
     repeat' (first
  | ((first | refine zag ?_ | refine zaj ?_ | fail); simp [hx, hlt2])
  | (refine ⟨by omega, ?_⟩)
  | ((first | refine zah ?_ | refine zai ?_ | refine zat ?_ | fail); simp [hx, hlt2])
  | (refine zao ?_; simp only [zap])
  | (refine CallP.fE (g1) (by first | rfl | fail) (by first | simp [hx, hlt2] <;> rfl | fail) ?_; (try simp [hx, hlt2]))
  | fail)
     refine LoopW.next ⟨e + 1, by omega, by omega, fun x hx' => ?_⟩ (by simp; omega) ?_
     ·rw [show e + 1 - p = e - p + 1 by omega, List.take_succ, <- hxe, hx] at hx';rcases List.mem_append.1 hx' with h | h
      ·exact he3 x h
      ·simp at h; subst h; exact hwy
     exact (Wk.env rfl rfl rfl (by simp [wkE, St.lp, zan, zaa, getK] <;> (try (intros; simp_all; done)) <;> (try (intros; omega)) <;> (try grind)))
    | false =>
     have hdy : zaI y = true := by simpa [zbH, hly] using hwy
     rw [hly] at g1;rw [hdy] at g2
     repeat' (first
  | ((first | refine zag ?_ | refine zaj ?_ | fail); simp [hx, hlt2])
  | (refine ⟨by omega, ?_⟩)
  | ((first | refine zah ?_ | refine zai ?_ | refine zat ?_ | fail); simp [hx, hlt2])
  | (refine zao ?_; simp only [zap])
  | (refine CallP.fE (g1) (by first | rfl | fail) (by first | simp [hx, hlt2] <;> rfl | fail) ?_; (try simp [hx, hlt2]))
  | (refine CallP.fE (g2) (by first | rfl | fail) (by first | simp [hx, hlt2] <;> rfl | fail) ?_; (try simp [hx, hlt2]))
  | fail)
     refine LoopW.next ⟨e + 1, by omega, by omega, fun x hx' => ?_⟩ (by simp; omega) ?_
     ·rw [show e + 1 - p = e - p + 1 by omega, List.take_succ, <- hxe, hx] at hx';rcases List.mem_append.1 hx' with h | h
      ·exact he3 x h
      ·simp at h; subst h; exact hwy
     exact (Wk.env rfl rfl rfl (by simp [wkE, St.lp, zan, zaa, getK] <;> (try (intros; simp_all; done)) <;> (try (intros; omega)) <;> (try grind)))
   | false =>
    have hly : zbx y = false := by simp only [zbH, Bool.or_eq_false_iff] at hwy; exact hwy.1
    have hdy : zaI y = false := by simp only [zbH, Bool.or_eq_false_iff] at hwy; exact hwy.2
    rw [hly] at g1;rw [hdy] at g2;have hf := fin (stop (.inr ⟨y, by rw [<- hxe, hx], hwy⟩));by_cases hb : 20 < (e : Int) - p
    ·rw [hf, if_pos hb]
     repeat' (first
  | ((first | refine zag ?_ | refine zaj ?_ | fail); simp [hx, hlt2, hb])
  | (refine ⟨by omega, ?_⟩)
  | ((first | refine zah ?_ | refine zai ?_ | fail); simp [hx, hlt2, hb])
  | (refine zaq ?_; simp only [zap])
  | (refine za9 ?_; simp [zap])
  | (refine CallP.fE (g1) (by first | rfl | fail) (by first | simp [hx, hlt2, hb] <;> rfl | fail) ?_; (try simp [hx, hlt2, hb]))
  | (refine CallP.fE (g2) (by first | rfl | fail) (by first | simp [hx, hlt2, hb] <;> rfl | fail) ?_; (try simp [hx, hlt2, hb]))
  | fail)
     (refine EndOK.val (.inr rfl) ?_; simp [zaA, zae, zar, Tryz.results87])
    ·rw [hf, if_neg hb]
     repeat' (first
  | ((first | refine zag ?_ | refine zaj ?_ | fail); simp [hx, hlt2, hb, hpe])
  | (refine ⟨by omega, ?_⟩)
  | ((first | refine zah ?_ | refine zai ?_ | fail); simp [hx, hlt2, hb, hpe])
  | ((first | refine zaq ?_ | refine zao ?_ | fail); simp only [zap])
  | (refine za9 ?_; simp [zap])
  | (refine CallP.fE (g1) (by first | rfl | fail) (by first | simp [hx, hlt2, hb, hpe] <;> rfl | fail) ?_; (try simp [hx, hlt2, hb, hpe]))
  | (refine CallP.fE (g2) (by first | rfl | fail) (by first | simp [hx, hlt2, hb, hpe] <;> rfl | fail) ?_; (try simp [hx, hlt2, hb, hpe]))
  | fail)
     (refine EndOK.val (.inr rfl) ?_; simp [zaA, zae, zar, Tryz.results87])
 | false =>
  rw [c1] at h1;cases c2 : zaI c with
  | true =>
   rw [c2] at h2
   (refine Fun.of_body Tryz.func87 rfl (by simp) fun Γ hn => ?_); simp only [entry, ziC, ziN, maC, maN, oA, Tryz.ntmps87]
   repeat' (first
  | ((first | refine zag ?_ | refine zaj ?_ | fail); simp [hc, hpl2])
  | (refine ⟨by omega, ?_⟩)
  | ((first | refine zah ?_ | refine zai ?_ | fail); simp [hc, hpl2])
  | (refine zao ?_; simp only [zap])
  | (refine CallP.fE (h1) (by first | rfl | fail) (by first | simp [hc, hpl2] <;> rfl | fail) ?_; (try simp [hc, hpl2]))
  | (refine CallP.fE (h2) (by first | rfl | fail) (by first | simp [hc, hpl2] <;> rfl | fail) ?_; (try simp [hc, hpl2]))
  | fail)
   refine zb8 (α := { e : Nat // p + 1 <= e /\ e <= s.length /\ ∀ x ∈ (c :: r).take (e - p), zaI x = true }) [0, 1, 4] (fun e => [(6, .u (.int .i64 e.1))]) (fun e => s.length - e.1) ⟨p + 1, by omega, by omega, by rw [show p + 1 - p = 1 by omega]; simpa using c2⟩ ?_ ?_
   ·exact (Wk.env rfl rfl rfl (by simp [wkE, St.lp, zan, zaa, getK] <;> (try (intros; simp_all; done)) <;> (try (intros; omega)) <;> (try grind)))
   rintro ⟨e, he1, he2, he3⟩;simp [St.lp, St.only, zan, zaa, getK];have hxe := hat e (by omega);have stop : (e = s.length \/ ∃ y, (c :: r)[e - p]? = some y /\ zaI y = false) -> zbQ zaI (c :: r) = e - p := fun h => by
    refine zdU he3 (by simp; omega) ?_;rcases h with h | h
    ·exact .inl (by simp; omega)
    ·exact .inr h
   have fin : zbQ zaI (c :: r) = e - p -> (zd8 (c :: r) = match zcO ((s.take e).drop p) with | some n => .ok ⟨2, (s.take e).drop p, n, 0⟩ | none => .error 3) := fun h => by
    unfold zd8;simp only [c1, c2, if_true, Bool.false_eq_true, if_false];rw [h, htk e (by omega) he2];cases zcO ((c :: r).take (e - p)) <;> rfl
   have htl : ((c :: r).take (e - p)).length = e - p := by rw [List.length_take]; simp; omega
   have hnm := zk9 ((s.take e).drop p) (by rw [htk e (by omega) he2]; exact he3) (by rw [htk e (by omega) he2]; intro h; rw [h] at htl; simp at htl; omega) (by rw [htk e (by omega) he2]; omega);have hpe : (p : Int) <= e := by omega
   rcases hx : s[e]? with _ | y
   ·have hge : ¬ (e : Int) < s.length := by have : s.length ≤ e := by simpa using hx
                                            omega
    rw [fin (stop (.inl (by omega)))];cases hno : zcO ((s.take e).drop p) with
    | none =>
     rw [hno] at hnm
     repeat' (first
  | ((first | refine zag ?_ | refine zaj ?_ | fail); simp [hx, hge, hpe])
  | (refine ⟨by omega, ?_⟩)
  | ((first | refine zah ?_ | refine zai ?_ | fail); simp [hx, hge, hpe])
  | (refine zaq ?_; simp only [zap])
  | (refine za9 ?_; simp [zap])
  | (refine CallP.fE (hnm) (by first | rfl | fail) (by first | simp [hx, hge, hpe] <;> rfl | fail) ?_; (try simp [hx, hge, hpe]))
  | fail)
     (refine EndOK.val (.inr rfl) ?_; simp [zaA, zae, zar, Tryz.results87])
    | some n =>
     rw [hno] at hnm
     repeat' (first
  | ((first | refine zag ?_ | refine zaj ?_ | fail); simp [hx, hge, hpe])
  | (refine ⟨by omega, ?_⟩)
  | ((first | refine zah ?_ | refine zai ?_ | fail); simp [hx, hge, hpe])
  | ((first | refine zaq ?_ | refine zao ?_ | fail); simp only [zap])
  | (refine za9 ?_; simp [zap])
  | (refine CallP.fE (hnm) (by first | rfl | fail) (by first | simp [hx, hge, hpe] <;> rfl | fail) ?_; (try simp [hx, hge, hpe]))
  | fail)
     (refine EndOK.val (.inr rfl) ?_; simp [zaA, zae, zar, Tryz.results87])
   ·have hlt : e < s.length := (lGE.1 hx).1;have hlt2 : (e : Int) < s.length := by omega
    have g2 := zed y;cases hdy : zaI y with
    | true =>
     rw [hdy] at g2
     repeat' (first
  | ((first | refine zag ?_ | refine zaj ?_ | fail); simp [hx, hlt2])
  | (refine ⟨by omega, ?_⟩)
  | ((first | refine zah ?_ | refine zai ?_ | refine zat ?_ | fail); simp [hx, hlt2])
  | (refine zao ?_; simp only [zap])
  | (refine CallP.fE (g2) (by first | rfl | fail) (by first | simp [hx, hlt2] <;> rfl | fail) ?_; (try simp [hx, hlt2]))
  | fail)
     refine LoopW.next ⟨e + 1, by omega, by omega, fun x hx' => ?_⟩ (by simp; omega) ?_
     ·rw [show e + 1 - p = e - p + 1 by omega, List.take_succ, <- hxe, hx] at hx';rcases List.mem_append.1 hx' with h | h
      ·exact he3 x h
      ·simp at h; subst h; exact hdy
     exact (Wk.env rfl rfl rfl (by simp [wkE, St.lp, zan, zaa, getK] <;> (try (intros; simp_all; done)) <;> (try (intros; omega)) <;> (try grind)))
    | false =>
     rw [hdy] at g2;rw [fin (stop (.inr ⟨y, by rw [<- hxe, hx], hdy⟩))];cases hno : zcO ((s.take e).drop p) with
     | none =>
      rw [hno] at hnm
      repeat' (first
  | ((first | refine zag ?_ | refine zaj ?_ | fail); simp [hx, hlt2, hpe])
  | (refine ⟨by omega, ?_⟩)
  | ((first | refine zah ?_ | refine zai ?_ | fail); simp [hx, hlt2, hpe])
  | (refine zaq ?_; simp only [zap])
  | (refine za9 ?_; simp [zap])
  | (refine CallP.fE (g2) (by first | rfl | fail) (by first | simp [hx, hlt2, hpe] <;> rfl | fail) ?_; (try simp [hx, hlt2, hpe]))
  | (refine CallP.fE (hnm) (by first | rfl | fail) (by first | simp [hx, hlt2, hpe] <;> rfl | fail) ?_; (try simp [hx, hlt2, hpe]))
  | fail)
      (refine EndOK.val (.inr rfl) ?_; simp [zaA, zae, zar, Tryz.results87])
     | some n =>
      rw [hno] at hnm
      repeat' (first
  | ((first | refine zag ?_ | refine zaj ?_ | fail); simp [hx, hlt2, hpe])
  | (refine ⟨by omega, ?_⟩)
  | ((first | refine zah ?_ | refine zai ?_ | fail); simp [hx, hlt2, hpe])
  | ((first | refine zaq ?_ | refine zao ?_ | fail); simp only [zap])
  | (refine za9 ?_; simp [zap])
  | (refine CallP.fE (g2) (by first | rfl | fail) (by first | simp [hx, hlt2, hpe] <;> rfl | fail) ?_; (try simp [hx, hlt2, hpe]))
  | (refine CallP.fE (hnm) (by first | rfl | fail) (by first | simp [hx, hlt2, hpe] <;> rfl | fail) ?_; (try simp [hx, hlt2, hpe]))
  | fail)
      (refine EndOK.val (.inr rfl) ?_; simp [zaA, zae, zar, Tryz.results87])
  | false =>
   rw [c2] at h2;have hsg := znY s p c r hd hl;have hno : zd8 (c :: r) = if zd5 c r = 0 then .error 11 else .ok ⟨3, (s.take (p + zd5 c r)).drop p, 0, 0⟩ := by
    unfold zd8;simp only [c1, c2, Bool.false_eq_true, if_false];rw [znV];by_cases h0 : zd5 c r = 0
    ·rw [if_pos h0, if_pos h0]
    ·rw [if_neg h0, if_neg h0, List.drop_take, hd, show p + zd5 c r - p = zd5 c r by omega]
   have hkr : zd5 c r <= r.length + 1 := by
    unfold zd5;split
    ·rename_i h;cases r with
     | nil => cases h.2
     | cons => simp
    ·split <;> omega
   have hle : (p : Int) + zd5 c r <= s.length := by omega
   rw [hno];by_cases h0 : zd5 c r = 0
   ·rw [if_pos h0];rw [h0] at hsg
    (refine Fun.of_body Tryz.func87 rfl (by simp) fun Γ hn => ?_); simp only [entry, ziC, ziN, maC, maN, oA, Tryz.ntmps87]
    repeat' (first
  | ((first | refine zag ?_ | refine zaj ?_ | fail); simp [hc, hpl2])
  | (refine ⟨by omega, ?_⟩)
  | ((first | refine zah ?_ | refine zai ?_ | fail); simp [hc, hpl2])
  | ((first | refine zaq ?_ | refine zao ?_ | fail); simp only [zap])
  | (refine CallP.fE (h1) (by first | rfl | fail) (by first | simp [hc, hpl2] <;> rfl | fail) ?_; (try simp [hc, hpl2]))
  | (refine CallP.fE (h2) (by first | rfl | fail) (by first | simp [hc, hpl2] <;> rfl | fail) ?_; (try simp [hc, hpl2]))
  | (refine CallP.fE (hsg) (by first | rfl | fail) (by first | simp [hc, hpl2] <;> rfl | fail) ?_; (try simp [hc, hpl2]))
  | fail)
    (refine EndOK.val (.inr rfl) ?_; simp [zaA, zae, zar, Tryz.results87])
   ·rw [if_neg h0];have h0' : ¬ (zd5 c r : Int) = 0 := by omega
    generalize zd5 c r = K at *
    (refine Fun.of_body Tryz.func87 rfl (by simp) fun Γ hn => ?_); simp only [entry, ziC, ziN, maC, maN, oA, Tryz.ntmps87]
    have hpk : ((p : Int) + K).toNat = p + K := by omega
    repeat' (first
  | ((first | refine zag ?_ | refine zaj ?_ | fail); simp [hc, hpl2, h0, h0', hle, hpk])
  | (refine ⟨by omega, ?_⟩)
  | ((first | refine zah ?_ | refine zai ?_ | fail); simp [hc, hpl2, h0, h0', hle, hpk])
  | ((first | refine zaq ?_ | refine zao ?_ | fail); simp only [zap])
  | (refine CallP.fE (h1) (by first | rfl | fail) (by first | simp [hc, hpl2, h0, h0', hle, hpk] <;> rfl | fail) ?_; (try simp [hc, hpl2, h0, h0', hle, hpk]))
  | (refine CallP.fE (h2) (by first | rfl | fail) (by first | simp [hc, hpl2, h0, h0', hle, hpk] <;> rfl | fail) ?_; (try simp [hc, hpl2, h0, h0', hle, hpk]))
  | (refine CallP.fE (hsg) (by first | rfl | fail) (by first | simp [hc, hpl2, h0, h0', hle, hpk] <;> rfl | fail) ?_; (try simp [hc, hpl2, h0, h0', hle, hpk]))
  | fail)
    (refine EndOK.val (.inr rfl) ?_; simp [zaA, zae, zar, Tryz.results87])
theorem zb9 (l : List Tok) (p : Nat) (t : Tok) (hp : l[p]? = some t) (hl : l.length <= 1000000) : Fun Tryz.prog 43 [.u (zqH l p)] (· = .u (.agg [.int .i64 t.kind, .str t.text, .int .i64 t.n, .int .i64 t.pos])) := by
 have hlt := (lGE.1 hp).1;unfold zqH zbf
 (refine Fun.of_body Tryz.func43 rfl (by simp) fun Γ hn => ?_); simp only [entry, ziC, ziN, maC, maN, oA, Tryz.ntmps43]
 repeat' (first
  | ((first | refine zag ?_ | refine zaS rfl ?_ | refine zbJ rfl ?_ | refine zaj ?_ | refine zah ?_ | fail); simp [hp])
  | (refine za0 (hC _ (by kernel_rfl)) (hk _ ?_); clear hC hk C k; simp only [zap])
  | (refine za3 rfl (by kernel_rfl) (by first | (simp [hn]; done) | (simp [hn]; omega) | fail) fun C k hC hk => ?_; simp [hp])
  | (refine zaq ?_; simp only [zap])
  | fail)
 (refine EndOK.val (.inr rfl) ?_; simp [zaA, zae, zar, Tryz.results43])
theorem zeN (l : List Tok) (p : Nat) (w : List UInt8) (hp : p < l.length) (hl : l.length <= 1000000) : Fun Tryz.prog 79 [.u (zqH l p), .u (.str w)] (· = .u (.bool (isB l p w))) := by
 obtain ⟨t, ht⟩ : ∃ t, l[p]? = some t := ⟨_, List.getElem?_eq_getElem hp⟩;have hnx := zb9 l p t ht hl;unfold isB;rw [ht];unfold zqH zbf at *;by_cases h1 : t.kind = 0
 ·(refine Fun.of_body Tryz.func79 rfl (by simp) fun Γ hn => ?_); simp only [entry, ziC, ziN, maC, maN, oA, Tryz.ntmps79]
  repeat' (first
  | ((first | refine zag ?_ | refine zaj ?_ | refine zah ?_ | fail); simp [h1])
  | (refine zaq ?_; simp only [zap])
  | (refine CallP.fE (hnx) (by first | rfl | fail) (by first | simp [h1] <;> rfl | fail) ?_; (try simp [h1]))
  | fail)
  all_goals
    (refine EndOK.val (.inr rfl) ?_; simp [zaA, zae, zar, Tryz.results79])
  all_goals simp [h1]
 ·(refine Fun.of_body Tryz.func79 rfl (by simp) fun Γ hn => ?_); simp only [entry, ziC, ziN, maC, maN, oA, Tryz.ntmps79]
  repeat' (first
  | ((first | refine zag ?_ | refine zaj ?_ | refine zah ?_ | fail); simp [h1])
  | (refine zaq ?_; simp only [zap])
  | (refine CallP.fE (hnx) (by first | rfl | fail) (by first | simp [h1] <;> rfl | fail) ?_; (try simp [h1]))
  | fail)
  all_goals
    (refine EndOK.val (.inr rfl) ?_; simp [zaA, zae, zar, Tryz.results79])
  all_goals simp [h1]
theorem zbj (l : List Tok) (p : Nat) (w : List UInt8) (i nx : Nat) (hi : i < nx) (hp : p < l.length) (hl : l.length <= 1000000) :
  RetX Tryz.prog 127 [.ptr i 0, .u (.str w)] [(i, pOb l p)] nx (fun r o n => r = .val (.u (.bool (isB l p w))) /\ o = [(i, pOb l (if isB l p w = true then p + 1 else p))] /\ n = nx) := by
 have h1 := zeN l p w hp hl;unfold pOb zqH zbf at *;cases hb : isB l p w with
 | false =>
  rw [hb] at h1
  (refine RetX.of_bodyW Tryz.func127 rfl (by simp) fun Γ hn hpan => ?_); simp only [entry, ziC, ziN, maC, maN, oA, Tryz.ntmps127]
  repeat' (first
  | ((first | refine zag ?_ | refine zaj ?_ | refine zah ?_ | refine zai ?_ | fail); simp)
  | (refine zaq ?_; simp only [zap])
  | (refine CallP.fE (h1) (by first | rfl | fail) (by first | (simp; done) | (simp; rfl) | fail) ?_; (try simp))
  | fail)
  (refine EndW.here ?_; (first | (refine EndOK.fin (.inr rfl) ?_) | (refine EndOK.fin (.inl rfl) ?_)); simp [zaA, zae, Tryz.results127]; refine FinOK.here (by simp) ?_; try simp)
 | true =>
  rw [hb] at h1
  (refine RetX.of_bodyW Tryz.func127 rfl (by simp) fun Γ hn hpan => ?_); simp only [entry, ziC, ziN, maC, maN, oA, Tryz.ntmps127]
  repeat' (first
  | ((first | refine zag ?_ | refine zaj ?_ | fail); simp)
  | (refine ⟨by omega, ?_⟩)
  | ((first | refine zah ?_ | refine zai ?_ | fail); simp)
  | ((first | refine zaq ?_ | refine zao ?_ | fail); simp only [zap])
  | (refine CallP.fE (h1) (by first | rfl | fail) (by first | (simp; done) | (simp; rfl) | fail) ?_; (try simp))
  | fail)
  (refine EndW.here ?_; (first | (refine EndOK.fin (.inr rfl) ?_) | (refine EndOK.fin (.inl rfl) ?_)); simp [zaA, zae, Tryz.results127]; refine FinOK.here (by simp) ?_; try simp)
def chP (pos e : Int) : List PanicEntry := [{ v := .iface 105 (.agg #[.int .i64 pos, .int .i64 e]), recovered := false }]
def isP (l : List Tok) (ob : Ob) : Prop := ∃ q : Nat, ob = pOb l q
theorem zd0 (l : List Tok) (p : Nat) (e : Int) (i nx : Nat) (hi : i < nx) :
  RetX Tryz.prog 42 [.ptr i 0, .u (.bool true), .u (.int .i64 e)] [(i, pOb l p)] nx (fun r o n => r = .val (.tup []) /\ o = [(i, pOb l p)] /\ n = nx) := by
 (refine RetX.of_bodyW Tryz.func42 rfl (by simp) fun Γ hn hpan => ?_); simp only [entry, ziC, ziN, maC, maN, oA, Tryz.ntmps42]
 repeat' (first
  | ((first | refine zag ?_ | refine zaj ?_ | refine zah ?_ | refine zai ?_ | fail); simp)
  | (refine zao ?_; simp only [zap])
  | fail)
 (refine EndW.here ?_; (first | (refine EndOK.fin (.inr rfl) ?_) | (refine EndOK.fin (.inl rfl) ?_)); simp [zaA, zae, Tryz.results42]; refine FinOK.here (by simp) ?_; try simp)
theorem zcS (l : List Tok) (p : Nat) (t : Tok) (e : Int) (i nx : Nat) (hi : i < nx) (hp : l[p]? = some t) (hl : l.length <= 1000000) :
  RetX Tryz.prog 42 [.ptr i 0, .u (.bool false), .u (.int .i64 e)] [(i, pOb l p)] nx (fun r o n => r = .pan (chP t.pos e) /\ (∃ ob', isP l ob' /\ o = [(i, ob')]) /\ n = nx) := by
 have h1 := zb9 l p t hp hl
 (refine RetX.of_bodyW Tryz.func42 rfl (by simp) fun Γ hn hpan => ?_); simp only [entry, ziC, ziN, maC, maN, oA, Tryz.ntmps42]
 repeat' (first
  | ((first | refine zag ?_ | refine zaj ?_ | refine zah ?_ | refine zai ?_ | refine zas ?_ | fail); simp)
  | (refine CallP.fE (h1) (by first | rfl | fail) (by first | (simp; done) | (simp; rfl) | fail) ?_; (try simp))
  | fail)
 all_goals
  (refine hpan _ _ ⟨{ n := _, env := [], obs := [(i, pOb l p)], next := nx }, (Wk.cut rfl (by simp [hn]) (by simp [wkO, zaa, getK, zab, zac, Ob.under, D.under, zad, zaf, hi]) (by simp [wkU, zan, zaa, getK, D.under, hi]) (by simp [wkE, zan, zaa, getK, hi])), by simp [hn], ?_⟩; try simp)
  all_goals exact ⟨rfl, p, rfl⟩
inductive PR (α : Type) where
 | ok (a : α) (p : Nat)
 | stop (pos e : Int)
def zbL (l : List Tok) (p : Nat) : Int := match l[p]? with | some t => t.pos | none => 0
def zbd (l : List Tok) : Nat -> List (List UInt8) -> PR Unit
 | p, [] => .ok () p
 | p, w :: ws => if isB l p w = true then zbd l (p + 1) ws else .stop (zbL l p) 12
def PPost {α : Type} (l : List Tok) (i nx : Nat) (val : α -> D) : PR α -> Out -> List (Nat × Ob) -> Nat -> Prop
 | .ok a q, o, obs, n => o = .val (val a) /\ obs = [(i, pOb l q)] /\ n = nx
 | .stop pos e, o, obs, n => o = .pan (chP pos e) /\ (∃ ob', isP l ob' /\ obs = [(i, ob')]) /\ n = nx
theorem zis (l : List Tok) (p : Nat) (ws : List (List UInt8)) (i nx : Nat) (hi : i < nx) (hp : p < l.length) (hl : TokOK l) (hw : ws.length <= 100) :
  RetX Tryz.prog 83 [.ptr i 0, .u (.sl (ws.map fun w => [.str w]))] [(i, pOb l p)] nx (PPost l i nx (fun _ => .tup []) (zbd l p ws)) := by
 (refine RetX.of_bodyW Tryz.func83 rfl (by simp) fun Γ hn hpan => ?_); simp only [entry, ziC, ziN, maC, maN, oA, Tryz.ntmps83]
 repeat' (first
  | ((first | refine zag ?_ | refine zaj ?_ | refine zah ?_ | refine zat ?_ | fail); simp)
  | fail)
 refine zcT (α := { x : Nat × Nat // x.1 <= ws.length /\ x.2 < l.length /\ zbd l p ws = zbd l x.2 (ws.drop x.1) }) [0, 6, 7] (fun x => [(8, .u (.int .i64 x.1.1))]) (fun x => [(i, pOb l x.1.2)]) nx (fun x => ws.length - x.1.1) ⟨(0, p), by simp, hp, by simp⟩ ?_ ?_
 ·exact (Wk.cut rfl (by simp [hn, St.lp]) (by simp [wkO, St.lp, zaa, getK, Ob.under, D.under, zad, zaf, hi]) (by simp [wkU, St.lp, zan, zaa, getK, D.under, hi]) (by simp [wkE, St.lp, zan, zaa, getK, hi] <;> (try (intros; simp_all; done)) <;> (try (intros; omega)) <;> (try grind)))
 rintro ⟨⟨k, q⟩, h1, h2, h3⟩;simp only at h1 h2 h3;simp [St.lp, St.only, zan, zaa, getK];rcases hx : ws[k]? with _ | w
 ·have hge : ws.length <= k := by simpa using hx
  obtain rfl : k = ws.length := by omega
  rw [List.drop_length, zbd] at h3
  repeat' (first
  | ((first | refine zag ?_ | refine zaj ?_ | refine zah ?_ | fail); simp [hx])
  | (refine za9 ?_; simp [zap])
  | fail)
  rw [h3]
  (refine EndW.here ?_; (first | (refine EndOK.fin (.inr rfl) ?_) | (refine EndOK.fin (.inl rfl) ?_)); simp [zaA, zae, Tryz.results83]; refine FinOK.here (by simp) ?_; try simp)
  simp [PPost]
 ·have hlt : k < ws.length := (lGE.1 hx).1;have hd : ws.drop k = w :: ws.drop (k + 1) := by
   obtain ⟨h5, h6⟩ := lGE.1 hx;rw [<- h6, List.getElem_cons_drop]
  rw [hd, zbd] at h3;have hh := zbj l q w i nx hi h2 hl.len;by_cases hb : isB l q w = true
  ·rw [if_pos hb] at h3;rw [hb, if_pos rfl] at hh;have hq := zaO hl hb;have hck := zd0 l (q + 1) 12 i nx hi
   repeat' (first
  | ((first | refine zag ?_ | refine zaj ?_ | fail); simp [hx])
  | (refine ⟨by omega, ?_⟩)
  | ((first | refine zah ?_ | refine zas ?_ | fail); simp [hx])
  | (refine zao ?_; simp only [zap])
  | (refine ⟨?_, by omega⟩)
  | (intro hc <;> (try (exfalso; omega)))
  | (refine CallP.ok1 (hh) (by first | (simp [hx, zaa, getK, zab, zac]; done) | fail) (by rfl) (by rfl) ?_; (try simp [hx]))
  | (refine CallP.ok1 (hck) (by first | (simp [hx, zaa, getK, zab, zac]; done) | fail) (by rfl) (by rfl) ?_; (try simp [hx]))
  | fail)
   refine LoopW.next ⟨(k + 1, q + 1), by omega, hq, h3⟩ (by simp; omega) ?_
   exact (Wk.cut rfl (by simp [hn, St.lp]) (by simp [wkO, St.lp, zaa, getK, Ob.under, D.under, zad, zaf, hi, zab, zac, zaa, getK]) (by simp [wkU, St.lp, zan, zaa, getK, D.under, hi, zab, zac, zaa, getK]) (by simp [wkE, St.lp, zan, zaa, getK, hi, zab, zac, zaa, getK] <;> (try (intros; simp_all; done)) <;> (try (intros; omega)) <;> (try grind)))
  ·have hb2 : isB l q w = false := by simpa using hb
   rw [if_neg hb] at h3;rw [hb2, if_neg (by simp)] at hh;obtain ⟨t, ht⟩ : ∃ t, l[q]? = some t := ⟨_, List.getElem?_eq_getElem h2⟩;have hck := zcS l q t 12 i nx hi ht hl.len
   repeat' (first
  | ((first | refine zag ?_ | refine zaj ?_ | refine zah ?_ | refine zas ?_ | fail); simp [hx])
  | (refine zao ?_; simp only [zap])
  | (refine ⟨?_, by omega⟩)
  | (intro hc <;> (try (exfalso; omega)))
  | (refine CallP.ok1 (hh) (by first | (simp [hx, zaa, getK, zab, zac]; done) | fail) (by rfl) (by rfl) ?_; (try simp [hx]))
  | (refine CallP.zeW (hck) (by first | (simp [hx, zaa, getK, zab, zac]; done) | fail) (by rfl) (by first | assumption | (simp; done) | fail) (by rfl) (by simp) ?_; rintro ob' ⟨q', rfl⟩; refine ⟨_, Wk.refl _, ?_⟩)
  | fail)
   rw [h3] at hpan
   (refine hpan _ _ ⟨{ n := _, env := [], obs := [(i, pOb l q')], next := nx }, (Wk.cut rfl (by simp [hn]) (by simp [wkO, zaa, getK, zab, zac, Ob.under, D.under, zad, zaf, hi, zab, zac, zaa, getK]) (by simp [wkU, zan, zaa, getK, D.under, hi, zab, zac, zaa, getK]) (by simp [wkE, zan, zaa, getK, hi, zab, zac, zaa, getK])), by simp [hn], ?_⟩; try simp)
   all_goals exact ⟨by simp [zbL, ht], ⟨_, ⟨q', rfl⟩, rfl⟩, rfl⟩
end Go.Proofs.YthnemhfamhnfjaaGreatDoor
namespace Go.Proofs.YthnemhfamhnfjaaGreatDoor
open Go Go.VL
def PR.bind {α β : Type} : PR α -> (α -> Nat -> PR β) -> PR β
 | .ok a p, f => f a p
 | .stop pos e, _ => .stop pos e
theorem PR.zaB {α β : Type} {a : α} {p : Nat} {f : α -> Nat -> PR β} : (PR.ok a p).bind f = f a p := rfl
theorem PR.zax {α β : Type} {pos e : Int} {f : α -> Nat -> PR β} : (PR.stop pos e : PR α).bind f = .stop pos e := rfl
theorem PR.zaC {α β : Type} {r : PR α} {f : α -> Nat -> PR β} {b : β} {q : Nat} (h : r.bind f = .ok b q) : ∃ a p, r = .ok a p /\ f a p = .ok b q := by
 cases r with
 | ok a p => exact ⟨a, p, rfl, h⟩
 | stop => cases h
theorem PPost.zcy {α : Type} {l i nx} {val : α -> D} {r : PR α} {a : α} {q : Nat} (h : r = .ok a q) {d : D} (hd : d = val a) {o : List (Nat × Ob)} (ho : o = [(i, pOb l q)]) : PPost l i nx val r (.val d) o nx := by
 subst h; subst hd; subst ho; exact ⟨rfl, rfl, rfl⟩
theorem PPost.zaF {α : Type} {l i nx} {val : α -> D} {r : PR α} {pos e : Int} {q : Nat} (h : r = .stop pos e) : PPost l i nx val r (.pan (chP pos e)) [(i, pOb l q)] nx := by
 subst h; exact ⟨rfl, ⟨_, ⟨q, rfl⟩, rfl⟩, rfl⟩
structure Opr where
 text : List UInt8
 op : Int
 form : Int
def oprs : List Opr := [⟨[111, 114], 11, 1⟩, ⟨[97, 110, 100], 10, 2⟩, ⟨[61, 61], 9, 4⟩, ⟨[60], 8, 4⟩, ⟨[43], 2, 5⟩, ⟨[45], 3, 5⟩, ⟨[42], 4, 6⟩, ⟨[47], 5, 6⟩]
def zf1 (l : List Tok) (p : Nat) : Option Opr := oprs.find? fun o => isB l p o.text
def zhP (l : List Tok) (p : Nat) : PR Int :=
 if isB l p [99, 111, 105, 110, 115] = true then .ok 3 (p + 1)
 else if isB l p [100, 97, 121, 115] = true then .ok 2 (p + 1)
 else if isB l p [112, 101, 114] = true then (zbd l (p + 1) [[109, 105, 108, 108, 101]]).bind fun _ q => .ok 4 q
 else .ok 1 p
mutual
def zdZ (l : List Tok) : Nat -> Nat -> Int -> PR Exp
 | 0, _, _ => .stop 0 0
 | f + 1, p, form => (zbl l f p form).bind fun e q => zef l f form e.1 e.2 q
def zef (l : List Tok) : Nat -> Int -> Exp -> Int -> Nat -> PR Exp
 | 0, _, _, _, _ => .stop 0 0
 | f + 1, form, e, own, q => match zf1 l q with
  | none => .ok e q
  | some x => if x.form < form \/ own < x.form \/ (own = 4 /\ x.form = 4) then .ok e q
   else (zdZ l f (q + 1) (x.form + 1)).bind fun e2 r => zef l f form (.mk x.op 0 0 [] [e, e2]) x.form r
def zbl (l : List Tok) : Nat -> Nat -> Int -> PR (Exp × Int)
 | 0, _, _ => .stop 0 0
 | f + 1, p, form =>
  if form = 0 /\ isB l p [105, 102] = true then
   (zdZ l f (p + 1) 0).bind fun a q1 => (zbd l q1 [[116, 104, 101, 110]]).bind fun _ q2 => (zdZ l f q2 0).bind fun b q3 =>
   (zbd l q3 [[101, 108, 115, 101]]).bind fun _ q4 => (zdZ l f q4 0).bind fun c q5 => .ok (.mk 13 0 0 [] [a, b, c], 0) q5
  else if form <= 3 /\ isB l p [110, 111, 116] = true then (zdZ l f (p + 1) 3).bind fun a q => .ok (.mk 12 0 0 [] [a], 3) q
  else (zaZ l f p).bind fun e q => .ok (e, 7) q
def zaZ (l : List Tok) : Nat -> Nat -> PR Exp
 | 0, _ => .stop 0 0
 | f + 1, p => match l[p]? with
  | none => .stop 0 0
  | some t =>
   if t.kind = 2 then (zhP l (p + 1)).bind fun u q => .ok (.mk 0 t.n u [] []) q
   else if isB l p [116, 114, 117, 101] = true then .ok (.mk 0 1 0 [] []) (p + 1)
   else if isB l p [102, 97, 108, 115, 101] = true then .ok (.mk 0 0 0 [] []) (p + 1)
   else if isB l p [109, 105, 110] = true \/ isB l p [109, 97, 120] = true then
    (zbd l (p + 1) [[40]]).bind fun _ q1 => (zdZ l f q1 0).bind fun a q2 => (zbd l q2 [[44]]).bind fun _ q3 => (zdZ l f q3 0).bind fun b q4 =>
    (zbd l q4 [[41]]).bind fun _ q5 => .ok (.mk (if isB l p [109, 97, 120] = true then 7 else 6) 0 0 [] [a, b]) q5
   else if isB l p [40] = true then (zdZ l f (p + 1) 0).bind fun e q1 => (zbd l q1 [[41]]).bind fun _ q2 => .ok e q2
   else if t.kind = 1 /\ zb3 t.text = true then .ok (.mk 1 0 0 t.text []) (p + 1)
   else .stop t.pos 12
end
theorem zaJ {l : List Tok} (hl : TokOK l) : ∀ (ws : List (List UInt8)) {p q : Nat}, zbd l p ws = .ok () q -> p < l.length -> p <= q /\ q < l.length
 | [], p, q, h, hp => by rw [zbd] at h; cases h; exact ⟨Nat.le_refl _, hp⟩
 | w :: ws, p, q, h, hp => by
  rw [zbd] at h;split at h
  ·rename_i hb;have := zaJ hl ws h (zaO hl hb);exact ⟨by omega, this.2⟩
  ·cases h
theorem zpz {l : List Tok} (hl : TokOK l) {p q : Nat} {u : Int} (h : zhP l p = .ok u q) (hp : p < l.length) : p <= q /\ q < l.length := by
 unfold zhP at h;split at h
 ·rename_i hb; cases h; exact ⟨by omega, zaO hl hb⟩
 ·split at h
  ·rename_i hb; cases h; exact ⟨by omega, zaO hl hb⟩
  ·split at h
   ·rename_i hb;obtain ⟨a, r, h1, h2⟩ := PR.zaC h;cases h2;have := zaJ hl _ h1 (zaO hl hb);exact ⟨by omega, this.2⟩
   ·cases h; exact ⟨by omega, hp⟩
theorem zbF {l : List Tok} (hl : TokOK l) : ∀ (f : Nat),
  (∀ p form e q, zdZ l f p form = .ok e q -> p < l.length -> p <= q /\ q < l.length) /\
  (∀ form e own p e' q, zef l f form e own p = .ok e' q -> p < l.length -> p <= q /\ q < l.length) /\
  (∀ p form e q, zbl l f p form = .ok e q -> p < l.length -> p <= q /\ q < l.length) /\
  (∀ p e q, zaZ l f p = .ok e q -> p < l.length -> p <= q /\ q < l.length)
 | 0 => ⟨fun _ _ _ _ h => by simp [zdZ] at h, fun _ _ _ _ _ _ h => by simp [zef] at h, fun _ _ _ _ h => by simp [zbl] at h, fun _ _ _ h => by simp [zaZ] at h⟩
 | f + 1 => by
  obtain ⟨he, hlo, hpr, hpm⟩ := zbF hl f;refine ⟨fun p form e q h hp => ?_, fun form e own p e' q h hp => ?_, fun p form e q h hp => ?_, fun p e q h hp => ?_⟩
  ·rw [zdZ] at h;obtain ⟨a, r, h1, h2⟩ := PR.zaC h;have g1 := hpr _ _ _ _ h1 hp;have g2 := hlo _ _ _ _ _ _ h2 g1.2;exact ⟨by omega, g2.2⟩
  ·rw [zef] at h;split at h
   ·cases h; exact ⟨by omega, hp⟩
   ·rename_i x hx;have hb := List.find?_some hx;have hp2 := zaO hl hb;split at h
    ·cases h; exact ⟨by omega, hp⟩
    ·obtain ⟨a, r, h1, h2⟩ := PR.zaC h;have g1 := he _ _ _ _ h1 hp2;have g2 := hlo _ _ _ _ _ _ h2 g1.2;exact ⟨by omega, g2.2⟩
  ·rw [zbl] at h;split at h
   ·rename_i hb;have hp2 := zaO hl hb.2;obtain ⟨a, r, h1, h⟩ := PR.zaC h;have g1 := he _ _ _ _ h1 hp2;obtain ⟨_, r2, h2, h⟩ := PR.zaC h;have g2 := zaJ hl _ h2 g1.2;obtain ⟨a, r3, h3, h⟩ := PR.zaC h;have g3 := he _ _ _ _ h3 g2.2;obtain ⟨_, r4, h4, h⟩ := PR.zaC h;have g4 := zaJ hl _ h4 g3.2;obtain ⟨a, r5, h5, h⟩ := PR.zaC h;have g5 := he _ _ _ _ h5 g4.2;cases h;exact ⟨by omega, g5.2⟩
   ·split at h
    ·rename_i hb;have hp2 := zaO hl hb.2;obtain ⟨a, r, h1, h⟩ := PR.zaC h;have g1 := he _ _ _ _ h1 hp2;cases h;exact ⟨by omega, g1.2⟩
    ·obtain ⟨a, r, h1, h⟩ := PR.zaC h;have g1 := hpm _ _ _ h1 hp;cases h;exact g1
  ·rw [zaZ] at h;split at h
   ·cases h
   ·rename_i t ht;split at h
    ·rename_i hk;have hp2 := hl.fin p t ht (by omega);obtain ⟨a, r, h1, h⟩ := PR.zaC h;have g1 := zpz hl h1 hp2;cases h;exact ⟨by omega, g1.2⟩
    split at h
    ·rename_i hb; cases h; exact ⟨by omega, zaO hl hb⟩
    split at h
    ·rename_i hb; cases h; exact ⟨by omega, zaO hl hb⟩
    split at h
    ·rename_i hb;have hp2 : p + 1 < l.length := hb.elim (zaO hl) (zaO hl);obtain ⟨_, r2, h2, h⟩ := PR.zaC h;have g2 := zaJ hl _ h2 hp2;obtain ⟨a, r3, h3, h⟩ := PR.zaC h;have g3 := he _ _ _ _ h3 g2.2;obtain ⟨_, r4, h4, h⟩ := PR.zaC h;have g4 := zaJ hl _ h4 g3.2;obtain ⟨a, r5, h5, h⟩ := PR.zaC h;have g5 := he _ _ _ _ h5 g4.2;obtain ⟨_, r6, h6, h⟩ := PR.zaC h;have g6 := zaJ hl _ h6 g5.2;cases h;exact ⟨by omega, g6.2⟩
    split at h
    ·rename_i hb;have hp2 := zaO hl hb;obtain ⟨a, r3, h3, h⟩ := PR.zaC h;have g3 := he _ _ _ _ h3 hp2;obtain ⟨_, r4, h4, h⟩ := PR.zaC h;have g4 := zaJ hl _ h4 g3.2;cases h;exact ⟨by omega, g4.2⟩
    split at h
    ·rename_i hk;cases h;exact ⟨by omega, hl.fin p t ht (by omega)⟩
    ·cases h
end Go.Proofs.YthnemhfamhnfjaaGreatDoor
namespace Go.Proofs.YthnemhfamhnfjaaGreatDoor
open Go Go.VL
abbrev W8 := List UInt8
def zne : W8 -> Int
 | [] => 0
 | c :: _ => if zbx c = true then 1 else if zaI c = true then 2 else 3
theorem zp2 {w : W8} (h : w ≠ []) : zne w ≠ 0 := by
 cases w with
 | nil => exact absurd rfl h
 | cons c w => rw [zne]; split <;> (try split) <;> decide
def zsy (w : W8) : Int := if zne w = 2 then (zcO w).getD 0 else 0
def Reads (l : List Tok) (p : Nat) (ws : List W8) : Prop := ∀ i w, ws[i]? = some w -> w ≠ [] /\ ∃ t, l[p + i]? = some t /\ t.text = w /\ t.kind = zne w /\ t.n = zsy w
theorem Reads.left {l p} {a b : List W8} (h : Reads l p (a ++ b)) : Reads l p a := fun i w hi => h i w (by rw [List.getElem?_append_left (lGE.1 hi).1]; exact hi)
theorem Reads.right {l p} {a b : List W8} (h : Reads l p (a ++ b)) : Reads l (p + a.length) b := fun i w hi => by
 have := h (a.length + i) w (by rw [List.getElem?_append_right (by omega), Nat.add_sub_cancel_left]; exact hi)
 rwa [<- nAA] at this
theorem Reads.head {l p} {w : W8} {b : List W8} (h : Reads l p (w :: b)) : w ≠ [] /\ ∃ t, l[p]? = some t /\ t.text = w /\ t.kind = zne w /\ t.n = zsy w := h 0 w rfl
theorem Reads.tail {l p} {w : W8} {b : List W8} (h : Reads l p (w :: b)) : Reads l (p + 1) b := Reads.right (a := [w]) h
theorem Reads.isB {l p} {w : W8} {b : List W8} (h : Reads l p (w :: b)) (v : W8) : isB l p v = decide (w = v) := by
 obtain ⟨hw, t, ht, h1, h2, h3⟩ := h.head;have := zp2 hw;simp [Go.Proofs.YthnemhfamhnfjaaGreatDoor.isB, ht, h1, h2, this]
theorem Reads.want {l p} {w : W8} {b : List W8} (h : Reads l p (w :: b)) : zbd l p [w] = .ok () (p + 1) := by
 rw [zbd, if_pos (by rw [h.isB]; simp), zbd]
def Ev {α : Type} (g : Nat -> PR α) (r : PR α) : Prop := ∃ f0, ∀ f, f0 <= f -> g f = r
theorem Ev.succ {α : Type} {g : Nat -> PR α} {r : PR α} (h : Ev (fun f => g (f + 1)) r) : Ev g r := by
 obtain ⟨f0, h⟩ := h;refine ⟨f0 + 1, fun f hf => ?_⟩;obtain ⟨f, rfl⟩ : ∃ k, f = k + 1 := ⟨f - 1, by omega⟩;exact h f (by omega)
theorem Ev.const {α : Type} {r : PR α} : Ev (fun _ => r) r := ⟨0, fun _ _ => rfl⟩
theorem Ev.of {α : Type} {g : Nat -> PR α} {r : PR α} (h : ∀ f, g f = r) : Ev g r := ⟨0, fun f _ => h f⟩
theorem Ev.bind {α β : Type} {g : Nat -> PR α} {a : α} {q : Nat} {F : Nat -> α -> Nat -> PR β} {r : PR β} (h : Ev g (.ok a q)) (h2 : Ev (fun f => F f a q) r) : Ev (fun f => (g f).bind (F f)) r := by
 obtain ⟨f0, h⟩ := h;obtain ⟨f1, h2⟩ := h2;refine ⟨max f0 f1, fun f hf => ?_⟩;show (g f).bind (F f) = r;rw [h f (by omega), PR.zaB];exact h2 f (by omega)
def zeS (op : Int) : Int := if op = 13 then 0 else if op = 12 then 3 else match oprs.find? (fun o => decide (o.op = op)) with | some o => o.form | none => 7
def zgR (n u : Int) : List W8 :=
 if u = 0 then [if n = 1 then [116, 114, 117, 101] else [102, 97, 108, 115, 101]]
 else Lib.itoa n :: (if u = 3 then [[99, 111, 105, 110, 115]] else if u = 2 then [[100, 97, 121, 115]] else if u = 4 then [[112, 101, 114], [109, 105, 108, 108, 101]] else [])
def zr1 (x : Int × List W8) (least : Int) : List W8 := if x.1 < least then [40] :: x.2 ++ [[41]] else x.2
def znE (ws : List (Int × List W8)) (i : Nat) (least : Int) : List W8 := match ws[i]? with | some x => zr1 x least | none => []
def zfM (op n u : Int) (s : W8) (ws : List (Int × List W8)) : List W8 :=
 if op = 0 then zgR n u else if op = 1 then [s]
 else if op = 13 then [105, 102] :: znE ws 0 0 ++ [116, 104, 101, 110] :: znE ws 1 0 ++ [101, 108, 115, 101] :: znE ws 2 0
 else if op = 12 then [110, 111, 116] :: znE ws 0 3
 else if op = 6 then [109, 105, 110] :: [40] :: znE ws 0 0 ++ [44] :: znE ws 1 0 ++ [[41]]
 else if op = 7 then [109, 97, 120] :: [40] :: znE ws 0 0 ++ [44] :: znE ws 1 0 ++ [[41]]
 else match oprs.find? (fun o => decide (o.op = op)) with
  | some o => znE ws 0 (if o.form = 4 then 5 else o.form) ++ o.text :: znE ws 1 (o.form + 1)
  | none => []
mutual
def zcc : Exp -> List W8
 | .mk op n u s args => zfM op n u s (zlB args)
def zlB : List Exp -> List (Int × List W8)
 | [] => []
 | .mk op n u s args :: l => (zeS op, zfM op n u s (zlB args)) :: zlB l
end
theorem zkI : ∀ l : List Exp, zlB l = l.map fun e => (zeS e.op, zcc e)
 | [] => by simp [zlB]
 | .mk op n u s args :: l => by rw [zlB, List.map_cons, zkI l]; simp [zcc, Exp.op]
def zfB (e : Exp) (least : Int) : List W8 := zr1 (zeS e.op, zcc e) least
theorem zd7 {args : List Exp} {i : Nat} {a : Exp} (h : args[i]? = some a) (least : Int) : znE (zlB args) i least = zfB a least := by
 rw [znE, zkI, List.getElem?_map, h]; rfl
end Go.Proofs.YthnemhfamhnfjaaGreatDoor
namespace Go.Proofs.YthnemhfamhnfjaaGreatDoor
open Go Go.VL
end Go.Proofs.YthnemhfamhnfjaaGreatDoor
namespace Go.Proofs.YthnemhfamhnfjaaGreatDoor
open Go Go.VL
theorem zi8 (n : Nat) : ∀ k, n < 10 ^ (k + 1) -> (Lib.decDigits n).length <= k + 1 := by
 induction n using Nat.strongRecOn with
 | _ n ih =>
  intro k hk;rw [Lib.decDigits];split
  ·simp
  ·rename_i h;obtain ⟨k, rfl⟩ : ∃ j, k = j + 1 := ⟨k - 1, by cases k with | zero => simp at hk; omega | succ k => rfl⟩;have := ih (n / 10) (by omega) k (by rw [Nat.pow_succ] at hk; omega);simp;omega
end Go.Proofs.YthnemhfamhnfjaaGreatDoor
namespace Go.Proofs.YthnemhfamhnfjaaGreatDoor
open Go Go.VL
theorem zoo {n u : Int} (h : zra (.mk 0 n u [] []) = true) : 0 <= u /\ u < 5 /\ 0 <= n /\ n <= 1099511627776 /\ (u = 0 -> n <= 1) := by
 have h2 : (decide (([] : List UInt8) = []) && decide (0 <= u) && decide (u < 5) && decide (0 <= n) && decide (n <= if u = 0 then 1 else 1099511627776)) = true := h;simp only [Bool.and_eq_true, decide_eq_true_eq] at h2;obtain ⟨⟨⟨⟨_, a⟩, b⟩, c⟩, d⟩ := h2;split at d
 ·exact ⟨a, b, c, by omega, fun _ => d⟩
 ·rename_i hz;exact ⟨a, b, c, d, fun h => absurd h hz⟩
end Go.Proofs.YthnemhfamhnfjaaGreatDoor
namespace Go.Proofs.YthnemhfamhnfjaaGreatDoor
open Go Go.VL
end Go.Proofs.YthnemhfamhnfjaaGreatDoor
namespace Go.Proofs.YthnemhfamhnfjaaGreatDoor
open Go Go.VL
theorem zre {α} {l : List α} (h : l.length = 1) : ∃ a, l = [a] := by
 match l, h with | [a], _ => exact ⟨a, rfl⟩
theorem zrd {α} {l : List α} (h : l.length = 2) : ∃ a b, l = [a, b] := by
 match l, h with | [a, b], _ => exact ⟨a, b, rfl⟩
theorem zrc {α} {l : List α} (h : l.length = 3) : ∃ a b c, l = [a, b, c] := by
 match l, h with | [a, b, c], _ => exact ⟨a, b, c, rfl⟩
theorem zfL {d : Nat} {op n u : Int} {s : W8} {args : List Exp} (h : zaP (d + 1) (.mk op n u s args) = true) :
  (op = 0 /\ s = [] /\ args = [] /\ zra (.mk 0 n u [] []) = true) \/ (op = 1 /\ n = 0 /\ u = 0 /\ args = [] /\ zb3 s = true) \/
  (n = 0 /\ u = 0 /\ s = [] /\ (∀ x ∈ args, zaP d x = true) /\ ((op = 12 /\ args.length = 1) \/ (op = 13 /\ args.length = 3) \/ (op ≠ 0 /\ op ≠ 1 /\ op ≠ 12 /\ op ≠ 13 /\ 0 <= op /\ op < 14 /\ args.length = 2))) := by
 have h2 : (decide ((args.length : Int) = zdi op) && (if op = 0 then zra (.mk op n u s args) else if n ≠ 0 \/ u ≠ 0 then false else if op = 1 then zb3 s else decide (s = []) && !args.any (fun x => !zaP d x))) = true := h;rw [Bool.and_eq_true, decide_eq_true_eq] at h2;obtain ⟨h1, h2⟩ := h2;by_cases h0 : op = 0
 ·subst h0;rw [if_pos rfl] at h2;have hs : s = [] := by
   have h3 : (decide (s = []) && decide (0 <= u) && decide (u < 5) && decide (0 <= n) && decide (n <= if u = 0 then 1 else 1099511627776)) = true := h2;simp only [Bool.and_eq_true, decide_eq_true_eq] at h3;exact h3.1.1.1.1
  have ha : args = [] := by
   have : zdi 0 = 0 := by decide
   rw [this] at h1;exact List.eq_nil_of_length_eq_zero (by omega)
  subst hs; subst ha;exact .inl ⟨rfl, rfl, rfl, h2⟩
 ·rw [if_neg h0] at h2;by_cases hnu : n ≠ 0 \/ u ≠ 0
  ·rw [if_pos hnu] at h2; cases h2
  ·rw [if_neg hnu] at h2;have hn : n = 0 := by omega
   have hu : u = 0 := by omega
   by_cases h1' : op = 1
   ·rw [if_pos h1'] at h2;subst h1';have : zdi 1 = 0 := by decide
    rw [this] at h1;exact .inr (.inl ⟨rfl, hn, hu, List.eq_nil_of_length_eq_zero (by omega), h2⟩)
   ·rw [if_neg h1', Bool.and_eq_true, decide_eq_true_eq] at h2;refine .inr (.inr ⟨hn, hu, h2.1, fun x hx => ?_, ?_⟩)
    ·have h3 := h2.2;rw [Bool.not_eq_true', List.any_eq_false] at h3;simpa using h3 x hx
    ·unfold zdi at h1;rw [if_neg (by omega)] at h1;by_cases h12 : op = 12
     ·rw [if_pos h12] at h1; exact .inl ⟨h12, by omega⟩
     ·rw [if_neg h12] at h1;by_cases h13 : op = 13
      ·rw [if_pos h13] at h1; exact .inr (.inl ⟨h13, by omega⟩)
      ·rw [if_neg h13] at h1;by_cases hr : op < 0 \/ 14 <= op
       ·rw [if_pos hr] at h1; omega
       ·rw [if_neg hr] at h1;exact .inr (.inr ⟨h0, h1', h12, h13, by omega, by omega, by omega⟩)
theorem zoi {op : Int} (h0 : 2 <= op) (h1 : op < 12) (h6 : op ≠ 6) (h7 : op ≠ 7) : ∃ o ∈ oprs, o.op = op := by
 have : op = 2 \/ op = 3 \/ op = 4 \/ op = 5 \/ op = 8 \/ op = 9 \/ op = 10 \/ op = 11 := by omega
 rcases this with rfl | rfl | rfl | rfl | rfl | rfl | rfl | rfl <;> simp [oprs]
end Go.Proofs.YthnemhfamhnfjaaGreatDoor
namespace Go.Proofs.YthnemhfamhnfjaaGreatDoor
open Go Go.VL
def zs2 (r : W8) : Prop := ∀ c t, r = c :: t -> zbi c = true
structure GoodW (w : W8) : Prop where
 next : ∀ r, zs2 r -> zd8 (w ++ r) = .ok ⟨zne w, w, zsy w, 0⟩
 ne : w ≠ []
 head : ∀ c t, w = c :: t -> zbi c = false
def zlx : List (W8 × W8) -> W8
 | [] => []
 | x :: l => x.1 ++ (x.2 ++ zlx l)
def Spaced : List (W8 × W8) -> Prop
 | [] => True
 | [x] => GoodW x.1 /\ ∀ c ∈ x.2, zbi c = true
 | x :: y :: l => GoodW x.1 /\ (∀ c ∈ x.2, zbi c = true) /\ x.2 ≠ [] /\ Spaced (y :: l)
theorem Spaced.good {x : W8 × W8} {l : List (W8 × W8)} (h : Spaced (x :: l)) : GoodW x.1 /\ (∀ c ∈ x.2, zbi c = true) /\ (l ≠ [] -> x.2 ≠ []) /\ Spaced l := by
 cases l with
 | nil => exact ⟨h.1, h.2, fun h => absurd rfl h, trivial⟩
 | cons y l => exact ⟨h.1, h.2.1, fun _ => h.2.2.1, h.2.2.2⟩
end Go.Proofs.YthnemhfamhnfjaaGreatDoor
namespace Go.Proofs.YthnemhfamhnfjaaGreatDoor
open Go Go.VL
theorem PR.za1 {α β : Type} {r : PR α} {F G : α -> Nat -> PR β} (h : ∀ a q, r = .ok a q -> F a q = G a q) : r.bind F = r.bind G := by
 cases r with
 | ok a q => exact h a q rfl
 | stop => rfl
theorem zfw {l : List Tok} (hl : TokOK l) : ∀ (f : Nat),
  (∀ p form, p < l.length -> 4 * (l.length - p) + 3 <= f -> zdZ l (f + 1) p form = zdZ l f p form) /\
  (∀ p form e own, p < l.length -> 4 * (l.length - p) + 2 <= f -> zef l (f + 1) form e own p = zef l f form e own p) /\
  (∀ p form, p < l.length -> 4 * (l.length - p) + 2 <= f -> zbl l (f + 1) p form = zbl l f p form) /\
  (∀ p, p < l.length -> 4 * (l.length - p) + 1 <= f -> zaZ l (f + 1) p = zaZ l f p)
 | 0 => ⟨fun _ _ _ h => by omega, fun _ _ _ _ _ h => by omega, fun _ _ _ h => by omega, fun _ _ h => by omega⟩
 | f + 1 => by
  obtain ⟨he, hlo, hpr, hpm⟩ := zfw hl f;obtain ⟨le, llo, lpr, lpm⟩ := zbF hl f;refine ⟨fun p form hp hf => ?_, fun p form e own hp hf => ?_, fun p form hp hf => ?_, fun p hp hf => ?_⟩
  ·simp only [zdZ];rw [hpr p form hp (by omega)];refine PR.za1 fun a q hq => ?_;have g := lpr _ _ _ _ hq hp;exact hlo _ _ _ _ g.2 (by omega)
  ·rw [zef, zef];split
   ·rfl
   ·rename_i x hx;have hb := List.find?_some hx;have hp2 := zaO hl hb;split
    ·rfl
    ·rw [he (p + 1) _ hp2 (by omega)];refine PR.za1 fun a q hq => ?_;have g := le _ _ _ _ hq hp2;exact hlo _ _ _ _ g.2 (by omega)
  ·simp only [zbl];split
   ·rename_i hb;have hp2 := zaO hl hb.2;rw [he (p + 1) _ hp2 (by omega)];refine PR.za1 fun a q1 hq1 => ?_;have g1 := le _ _ _ _ hq1 hp2;refine PR.za1 fun _ q2 hq2 => ?_;have g2 := zaJ hl _ hq2 g1.2;rw [he q2 _ g2.2 (by omega)];refine PR.za1 fun b q3 hq3 => ?_;have g3 := le _ _ _ _ hq3 g2.2;refine PR.za1 fun _ q4 hq4 => ?_;have g4 := zaJ hl _ hq4 g3.2;rw [he q4 _ g4.2 (by omega)]
   ·split
    ·rename_i hb;rw [he (p + 1) _ (zaO hl hb.2) (by omega)]
    ·rw [hpm p hp (by omega)]
  ·simp only [zaZ];split
   ·rfl
   ·split
    ·rfl
    ·split
     ·rfl
     ·split
      ·rfl
      ·split
       ·rename_i hb;have hp2 : p + 1 < l.length := hb.elim (zaO hl) (zaO hl);refine PR.za1 fun _ q1 hq1 => ?_;have g1 := zaJ hl _ hq1 hp2;rw [he q1 _ g1.2 (by omega)];refine PR.za1 fun a q2 hq2 => ?_;have g2 := le _ _ _ _ hq2 g1.2;refine PR.za1 fun _ q3 hq3 => ?_;have g3 := zaJ hl _ hq3 g2.2;rw [he q3 _ g3.2 (by omega)]
       ·split
        ·rename_i hb;rw [he (p + 1) _ (zaO hl hb) (by omega)]
        ·rfl
theorem zkr {l : List Tok} (hl : TokOK l) {p f : Nat} {form : Int} (hp : p < l.length) (hf : 4 * (l.length - p) + 3 <= f) : ∀ g, zdZ l (f + g) p form = zdZ l f p form
 | 0 => rfl
 | g + 1 => by rw [<- nAA, (zfw hl (f + g)).1 p form hp (by omega), zkr hl hp hf g]
theorem Ev.fuel {l : List Tok} (hl : TokOK l) {p f : Nat} {form : Int} {r : PR Exp} (h : Ev (fun f => zdZ l f p form) r) (hp : p < l.length) (hf : 4 * (l.length - p) + 3 <= f) : zdZ l f p form = r := by
 obtain ⟨f0, h⟩ := h;rw [<- zkr hl hp hf f0];exact h (f + f0) (by omega)
end Go.Proofs.YthnemhfamhnfjaaGreatDoor
namespace Go.Proofs.YthnemhfamhnfjaaGreatDoor
open Go Go.VL
def zfx (l : List Tok) (p : Nat) (k : Int) : PR Exp := zdZ l (4 * l.length + 3) p k
def zgq (l : List Tok) (p : Nat) (k : Int) : PR (Exp × Int) := zbl l (4 * l.length + 3) p k
def zgw (l : List Tok) (k : Int) (e : Exp) (own : Int) (q : Nat) : PR Exp := zef l (4 * l.length + 3) k e own q
def zjS (l : List Tok) (p : Nat) : PR Exp := zaZ l (4 * l.length + 3) p
theorem zeF {l : List Tok} (hl : TokOK l) {p : Nat} (hp : p < l.length) (k : Int) : zfx l p k = (zgq l p k).bind fun e q => zgw l k e.1 e.2 q := by
 unfold zfx zgq zgw;rw [<- (zfw hl (4 * l.length + 3)).1 p k hp (by omega), zdZ]
theorem zpS {l : List Tok} (hl : TokOK l) {q : Nat} (hq : q < l.length) (k : Int) (e : Exp) (own : Int) : zgw l k e own q = match zf1 l q with
  | none => .ok e q
  | some x => if x.form < k \/ own < x.form \/ (own = 4 /\ x.form = 4) then .ok e q
   else (zfx l (q + 1) (x.form + 1)).bind fun e2 r => zgw l k (.mk x.op 0 0 [] [e, e2]) x.form r := by
 unfold zfx zgw;rw [<- (zfw hl (4 * l.length + 3)).2.1 q k e own hq (by omega), zef];all_goals (cases zf1 l q <;> rfl)
theorem zg1 {l : List Tok} (hl : TokOK l) {p : Nat} (hp : p < l.length) (k : Int) : zgq l p k =
  if k = 0 /\ isB l p [105, 102] = true then
   (zfx l (p + 1) 0).bind fun a q1 => (zbd l q1 [[116, 104, 101, 110]]).bind fun _ q2 => (zfx l q2 0).bind fun b q3 =>
   (zbd l q3 [[101, 108, 115, 101]]).bind fun _ q4 => (zfx l q4 0).bind fun c q5 => .ok (.mk 13 0 0 [] [a, b, c], 0) q5
  else if k <= 3 /\ isB l p [110, 111, 116] = true then (zfx l (p + 1) 3).bind fun a q => .ok (.mk 12 0 0 [] [a], 3) q
  else (zjS l p).bind fun e q => .ok (e, 7) q := by
 unfold zfx zgq zjS;rw [<- (zfw hl (4 * l.length + 3)).2.2.1 p k hp (by omega), zbl]
theorem zpJ {l : List Tok} (hl : TokOK l) {p : Nat} {t : Tok} (hp : l[p]? = some t) : zjS l p =
   if t.kind = 2 then (zhP l (p + 1)).bind fun u q => .ok (.mk 0 t.n u [] []) q
   else if isB l p [116, 114, 117, 101] = true then .ok (.mk 0 1 0 [] []) (p + 1)
   else if isB l p [102, 97, 108, 115, 101] = true then .ok (.mk 0 0 0 [] []) (p + 1)
   else if isB l p [109, 105, 110] = true \/ isB l p [109, 97, 120] = true then
    (zbd l (p + 1) [[40]]).bind fun _ q1 => (zfx l q1 0).bind fun a q2 => (zbd l q2 [[44]]).bind fun _ q3 => (zfx l q3 0).bind fun b q4 =>
    (zbd l q4 [[41]]).bind fun _ q5 => .ok (.mk (if isB l p [109, 97, 120] = true then 7 else 6) 0 0 [] [a, b]) q5
   else if isB l p [40] = true then (zfx l (p + 1) 0).bind fun e q1 => (zbd l q1 [[41]]).bind fun _ q2 => .ok e q2
   else if t.kind = 1 /\ zb3 t.text = true then .ok (.mk 1 0 0 t.text []) (p + 1)
   else .stop t.pos 12 := by
 have hlt := (lGE.1 hp).1;unfold zfx zjS;rw [<- (zfw hl (4 * l.length + 3)).2.2.2 p hlt (by omega), zaZ, hp]
theorem zcR {l : List Tok} (hl : TokOK l) {p q : Nat} {k : Int} {e : Exp} (h : zfx l p k = .ok e q) (hp : p < l.length) : p <= q /\ q < l.length := (zbF hl _).1 p k e q h hp
theorem ziJ {l : List Tok} (hl : TokOK l) {p q : Nat} {k : Int} {e} (h : zgq l p k = .ok e q) (hp : p < l.length) : p <= q /\ q < l.length := (zbF hl _).2.2.1 p k e q h hp
theorem zpI {l : List Tok} (hl : TokOK l) {p q : Nat} {e} (h : zjS l p = .ok e q) (hp : p < l.length) : p <= q /\ q < l.length := (zbF hl _).2.2.2 p e q h hp
theorem zoj {l : List Tok} (hl : TokOK l) {q : Nat} {x : Opr} (h : zf1 l q = some x) : q + 1 < l.length := by
 have hb := List.find?_some h;exact zaO hl hb
def zrg (l : List Tok) : Nat -> Int -> Exp -> Nat -> PR Exp
 | 0, _, e, q => .ok e q
 | n + 1, k, e, q => match zf1 l q with
  | none => .ok e q
  | some x => if x.form ≠ k then .ok e q else (zfx l (q + 1) (k + 1)).bind fun e2 r => if k = 4 then .ok (.mk x.op 0 0 [] [e, e2]) r else zrg l n k (.mk x.op 0 0 [] [e, e2]) r
theorem zkj {l : List Tok} (hl : TokOK l) : ∀ (n : Nat) (k : Int) (e : Exp) (q : Nat), q < l.length -> l.length - q <= n -> zrg l (n + 1) k e q = zrg l n k e q
 | 0, k, e, q, hq, h => by omega
 | n + 1, k, e, q, hq, h => by
  rw [zrg, zrg];split
  ·rfl
  ·rename_i x hx;split
   ·rfl
   ·have h1 := zoj hl hx;refine PR.za1 fun e2 r hr => ?_;have h2 := zcR hl hr h1;split
    ·rfl
    ·exact zkj hl n k _ r h2.2 (by omega)
def zl5 (l : List Tok) (k : Int) (e : Exp) (q : Nat) : PR Exp := zrg l l.length k e q
theorem zlt {l : List Tok} (hl : TokOK l) {q : Nat} (hq : q < l.length) (k : Int) (e : Exp) : zl5 l k e q = match zf1 l q with
  | none => .ok e q
  | some x => if x.form ≠ k then .ok e q else (zfx l (q + 1) (k + 1)).bind fun e2 r => if k = 4 then .ok (.mk x.op 0 0 [] [e, e2]) r else zl5 l k (.mk x.op 0 0 [] [e, e2]) r := by
 unfold zl5;rw [<- zkj hl l.length k e q hq (by omega), zrg]
def zel (l : List Tok) (k : Int) : Nat -> Exp -> Nat -> PR Exp
 | 0, e, q => .ok e q
 | d + 1, e, q => (zl5 l (k + d) e q).bind (zel l k d)
theorem PR.zd1 {α β γ : Type} {r : PR α} {F : α -> Nat -> PR β} {G : β -> Nat -> PR γ} : (r.bind F).bind G = r.bind fun a q => (F a q).bind G := by cases r <;> rfl
theorem PR.zkQ {α : Type} {r : PR α} : (r.bind fun a q => .ok a q) = r := by cases r <;> rfl
theorem ziW {l : List Tok} (hl : TokOK l) {q : Nat} (hq : q < l.length) (k : Int) (e : Exp) (h : ∀ x, zf1 l q = some x -> x.form ≠ k) : zl5 l k e q = .ok e q := by
 rw [zlt hl hq];split
 ·rfl
 ·rename_i x hx;rw [if_pos (h x hx)]
theorem zhD {l : List Tok} (hl : TokOK l) {q : Nat} (hq : q < l.length) (k : Int) (e : Exp) : ∀ (d : Nat), (∀ x, zf1 l q = some x -> x.form < k \/ k + d <= x.form) -> zel l k d e q = .ok e q
 | 0, _ => rfl
 | d + 1, h => by
  rw [zel, ziW hl hq _ e fun x hx => by have := h x hx; omega, PR.zaB, zhD hl hq k e d fun x hx => by have := h x hx; omega]
theorem zo7 {l : List Tok} (hl : TokOK l) {q : Nat} (hq : q < l.length) (k : Int) (e : Exp) (j : Nat) {x : Opr} (hx : zf1 l q = some x) (hf : x.form = k + j) : ∀ (d : Nat), j < d -> zel l k d e q = (zl5 l (k + j) e q).bind (zel l k j)
 | 0, h => by omega
 | d + 1, h => by
  by_cases hj : j = d
  ·subst hj; rw [zel]
  ·rw [zel, ziW hl hq _ e fun y hy => by rw [hx] at hy; cases hy; omega, PR.zaB, zo7 hl hq k e j hx hf d (by omega)]
theorem zkB {l : List Tok} (k : Int) : ∀ (d : Nat) (e : Exp) (q : Nat), zel l k (d + 1) e q = (zel l (k + 1) d e q).bind (zl5 l k)
 | 0, e, q => by
  show (zl5 l (k + ((0 : Nat) : Int)) e q).bind (zel l k 0) = (PR.ok e q).bind (zl5 l k);rw [PR.zaB, show k + ((0 : Nat) : Int) = k by omega];exact PR.zkQ
 | d + 1, e, q => by
  rw [zel, zel, PR.zd1, show k + ((d + 1 : Nat) : Int) = k + 1 + (d : Int) by omega];exact PR.za1 fun a r _ => zkB k d a r
theorem zj7 {l : List Tok} {q : Nat} {x : Opr} (h : zf1 l q = some x) : x.form = 1 \/ x.form = 2 \/ x.form = 4 \/ x.form = 5 \/ x.form = 6 := by
 have := List.mem_of_find?_eq_some h;simp only [oprs, List.mem_cons, List.mem_nil_iff, or_false] at this;rcases this with rfl | rfl | rfl | rfl | rfl | rfl | rfl | rfl <;> decide
theorem zlz {l : List Tok} (hl : TokOK l) : ∀ (n : Nat) (k : Int) (e : Exp) (own : Int) (q : Nat) (d : Nat), q < l.length -> l.length - q <= n -> (own ≠ 4 -> k + d = own + 1) -> (own = 4 -> k + d = 4) -> zgw l k e own q = zel l k d e q
 | 0, k, e, own, q, d, hq, h, _, _ => by omega
 | n + 1, k, e, own, q, d, hq, h, h4, h5 => by
  rw [zpS hl hq];split
  ·rename_i hx;rw [zhD hl hq k e d fun x hx' => by rw [hx] at hx'; cases hx']
  ·rename_i x hx;have hfm := zj7 hx;split
   ·rename_i hs;rw [zhD hl hq k e d fun y hy => by rw [hx] at hy; cases hy; by_cases ho : own = 4 <;> simp only [ho, ne_eq, not_true, not_false_eq_true, forall_const, true_implies] at h4 h5 <;> omega]
   ·rename_i hs;have hlt := zoj hl hx;obtain ⟨j, hj⟩ : ∃ j : Nat, x.form = k + j := ⟨(x.form - k).toNat, by omega⟩;have hjd : j < d := by by_cases ho : own = 4 <;> simp only [ho, ne_eq, not_true, not_false_eq_true, forall_const, true_implies] at h4 h5 <;> omega
    rw [zo7 hl hq k e j hx hj d hjd, zlt hl hq, hx];simp only [hj, ne_eq, not_true, if_false];rw [PR.zd1];refine PR.za1 fun e2 r hr => ?_;have g := zcR hl hr hlt;by_cases h44 : k + (j : Int) = 4
    ·rw [if_pos h44, PR.zaB];exact zlz hl n k _ _ r j g.2 (by omega) (fun h => absurd h44 h) (fun _ => h44)
    ·rw [if_neg h44, zlz hl n k _ (k + j) r (j + 1) g.2 (by omega) (fun _ => by omega) (fun h => absurd h h44), zel]
theorem zdN {l : List Tok} (hl : TokOK l) {p : Nat} (hp : p < l.length) {k : Int} (hk : 0 < k) : zgq l p k =
  if k <= 3 /\ isB l p [110, 111, 116] = true then (zfx l (p + 1) 3).bind fun a q => .ok (.mk 12 0 0 [] [a], 3) q
  else (zjS l p).bind fun e q => .ok (e, 7) q := by
 rw [zg1 hl hp, if_neg (fun h => by have := h.1; omega)]
theorem ziI {l : List Tok} (hl : TokOK l) {p : Nat} (hp : p < l.length) {k : Int} {e : Exp} {own : Int} {q : Nat} (h : zgq l p k = .ok (e, own) q) : own = 7 \/ own = 3 /\ k <= 3 \/ own = 0 /\ k = 0 := by
 rw [zg1 hl hp] at h;split at h
 ·rename_i hb;obtain ⟨a, r, _, h⟩ := PR.zaC h;obtain ⟨a, r, _, h⟩ := PR.zaC h;obtain ⟨a, r, _, h⟩ := PR.zaC h;obtain ⟨a, r, _, h⟩ := PR.zaC h;obtain ⟨a, r, _, h⟩ := PR.zaC h;cases h;exact .inr (.inr ⟨rfl, hb.1⟩)
 ·split at h
  ·rename_i hb;obtain ⟨a, r, _, h⟩ := PR.zaC h;cases h;exact .inr (.inl ⟨rfl, hb.1⟩)
  ·obtain ⟨a, r, _, h⟩ := PR.zaC h;cases h;exact .inl rfl
theorem zgv {l : List Tok} (hl : TokOK l) {k : Int} (e : Exp) {own : Int} {q : Nat} (hq : q < l.length) (ho : own = 7 \/ own = 3) (hk : k <= own) (hk0 : 0 <= k) : zgw l k e own q = (zgw l (k + 1) e own q).bind (zl5 l k) := by
 obtain ⟨d, hd⟩ : ∃ d : Nat, k + ((d + 1 : Nat) : Int) = own + 1 := ⟨(own - k).toNat, by omega⟩;rw [zlz hl _ k e own q (d + 1) hq (Nat.le_refl _) (fun _ => hd) (fun h => by omega), zlz hl _ (k + 1) e own q d hq (Nat.le_refl _) (fun _ => by omega) (fun h => by omega), zkB]
theorem zp8 {l : List Tok} (hl : TokOK l) {p : Nat} (hp : p < l.length) {k : Int} (hk : k = 1 \/ k = 2 \/ k = 4 \/ k = 5 \/ k = 6) : zfx l p k = (zfx l p (k + 1)).bind (zl5 l k) := by
 rw [zeF hl hp, zeF hl hp, PR.zd1];have e1 : zgq l p k = zgq l p (k + 1) := by
  rw [zdN hl hp (by omega), zdN hl hp (by omega)];by_cases hn : isB l p [110, 111, 116] = true
  ·by_cases h3 : k <= 3
   ·rw [if_pos ⟨h3, hn⟩, if_pos ⟨by omega, hn⟩]
   ·rw [if_neg (fun h => h3 h.1), if_neg (fun h => by have := h.1; omega)]
  ·rw [if_neg (fun h => hn h.2), if_neg (fun h => hn h.2)]
 rw [e1];refine PR.za1 fun a q hq => ?_;obtain ⟨e, own⟩ := a;have g := ziJ hl hq hp;have ho := ziI hl hp hq;exact zgv hl e g.2 (by omega) (by omega) (by omega)
theorem zg6 {l : List Tok} (hl : TokOK l) {q : Nat} (hq : q < l.length) (e : Exp) {k : Int} (hk : k = 0 \/ k = 3 \/ k = 7) : zl5 l k e q = .ok e q :=
 ziW hl hq k e fun x hx => by have := zj7 hx; omega
theorem zmu {l : List Tok} {r : PR Exp} {k : Int} (hk : k = 0 \/ k = 3 \/ k = 7) (hl : TokOK l) (h : ∀ e q, r = .ok e q -> q < l.length) : r.bind (zl5 l k) = r := by
 cases r with
 | ok e q => rw [PR.zaB, zg6 hl (h e q rfl) e hk]
 | stop => rfl
theorem zo1 {l : List Tok} (hl : TokOK l) {p : Nat} (hp : p < l.length) : zfx l p 0 = if isB l p [105, 102] = true then
   (zfx l (p + 1) 0).bind fun a q1 => (zbd l q1 [[116, 104, 101, 110]]).bind fun _ q2 => (zfx l q2 0).bind fun b q3 =>
   (zbd l q3 [[101, 108, 115, 101]]).bind fun _ q4 => (zfx l q4 0).bind fun c q5 => .ok (.mk 13 0 0 [] [a, b, c]) q5
  else zfx l p 1 := by
 by_cases hi : isB l p [105, 102] = true
 ·rw [if_pos hi, zeF hl hp, zg1 hl hp, if_pos ⟨rfl, hi⟩];simp only [PR.zd1, PR.zaB];refine PR.za1 fun a q1 h1 => ?_;have g1 := zcR hl h1 (zaO hl hi);refine PR.za1 fun _ q2 h2 => ?_;have g2 := zaJ hl _ h2 g1.2;refine PR.za1 fun b q3 h3 => ?_;have g3 := zcR hl h3 g2.2;refine PR.za1 fun _ q4 h4 => ?_;have g4 := zaJ hl _ h4 g3.2;refine PR.za1 fun c q5 h5 => ?_;have g5 := zcR hl h5 g4.2;rw [zlz hl _ 0 _ 0 q5 1 g5.2 (Nat.le_refl _) (fun _ => rfl) (fun h => by omega), zel, zg6 hl g5.2 _ (by simp), PR.zaB, zel]
 ·rw [if_neg hi, zeF hl hp, zeF hl hp];have e1 : zgq l p 0 = zgq l p 1 := by
   rw [zg1 hl hp, if_neg (fun h => hi h.2), zdN hl hp (by omega)];by_cases hn : isB l p [110, 111, 116] = true
   ·rw [if_pos ⟨by omega, hn⟩, if_pos ⟨by omega, hn⟩]
   ·rw [if_neg (fun h => hn h.2), if_neg (fun h => hn h.2)]
  rw [e1];refine PR.za1 fun a q hq => ?_;obtain ⟨e, own⟩ := a;have g := ziJ hl hq hp;have ho := ziI hl hp hq;show zgw l 0 e own q = zgw l 1 e own q;rw [zgv hl e g.2 (by omega) (by omega) (by omega), zmu (by simp) hl]
  ·rfl
  ·intro e' q' h;exact ((zbF hl _).2.1 _ _ _ _ _ _ h g.2).2
theorem znq {l : List Tok} (hl : TokOK l) {p : Nat} (hp : p < l.length) : zfx l p 3 = if isB l p [110, 111, 116] = true then (zfx l (p + 1) 3).bind fun a q => .ok (.mk 12 0 0 [] [a]) q else zfx l p 4 := by
 by_cases hi : isB l p [110, 111, 116] = true
 ·rw [if_pos hi, zeF hl hp, zdN hl hp (by omega), if_pos ⟨by omega, hi⟩];simp only [PR.zd1, PR.zaB];refine PR.za1 fun a q1 h1 => ?_;have g1 := zcR hl h1 (zaO hl hi);rw [zlz hl _ 3 _ 3 q1 1 g1.2 (Nat.le_refl _) (fun _ => rfl) (fun h => by omega), zel, zg6 hl g1.2 _ (by simp), PR.zaB, zel]
 ·rw [if_neg hi, zeF hl hp, zeF hl hp];have e1 : zgq l p 3 = zgq l p 4 := by
   rw [zdN hl hp (by omega), zdN hl hp (by omega), if_neg (fun h => hi h.2), if_neg (fun h => by have := h.1; omega)]
  rw [e1];refine PR.za1 fun a q hq => ?_;obtain ⟨e, own⟩ := a;have g := ziJ hl hq hp;have ho := ziI hl hp hq;show zgw l 3 e own q = zgw l 4 e own q;rw [zgv hl e g.2 (by omega) (by omega) (by omega), zmu (by simp) hl]
  ·rfl
  ·intro e' q' h;exact ((zbF hl _).2.1 _ _ _ _ _ _ h g.2).2
theorem znr {l : List Tok} (hl : TokOK l) {p : Nat} (hp : p < l.length) : zfx l p 7 = zjS l p := by
 rw [zeF hl hp, zdN hl hp (by omega), if_neg (fun h => by have := h.1; omega)];simp only [PR.zd1, PR.zaB];refine Eq.trans (PR.za1 fun a q hq => ?_) PR.zkQ;have g := zpI hl hq hp;show zgw l 7 a 7 q = .ok a q;rw [zlz hl _ 7 _ 7 q 1 g.2 (Nat.le_refl _) (fun _ => rfl) (fun h => by omega), zel, zg6 hl g.2 _ (by simp), PR.zaB, zel]
end Go.Proofs.YthnemhfamhnfjaaGreatDoor
namespace Go.Proofs.YthnemhfamhnfjaaGreatDoor
open Go Go.VL
structure RS where
 q : Nat
 err : Int
 pos : Int
abbrev zbB : Exp := .mk 0 0 0 [] []
abbrev zsT : Tok := ⟨0, [], 0, 0⟩
def zbw (l : List Tok) (S : RS) : Tok := if S.err ≠ 0 then zsT else (l[S.q]?).getD zsT
def zbm (l : List Tok) (S : RS) (e : Int) : RS := if S.err = 0 then ⟨S.q, e, (zbw l S).pos⟩ else S
def isR (l : List Tok) (S : RS) (w : W8) : Bool := decide ((zbw l S).kind ≠ 0) && decide ((zbw l S).text = w)
def RS.adv (S : RS) : RS := ⟨S.q + 1, S.err, S.pos⟩
def za6 (l : List Tok) (S : RS) (w : W8) : RS := if isR l S w = true then S.adv else zbm l S 12
def znR (l : List Tok) (S : RS) : Option Opr := oprs.find? fun o => isR l S o.text
mutual
def zdP (l : List Tok) : Nat -> RS -> Int -> Exp × RS
 | 0, S, _ => (zbB, S)
 | f + 1, S, k =>
  if S.err ≠ 0 then (zbB, S)
  else if k = 0 /\ isR l S [105, 102] = true then
   let a := zdP l f S.adv 0
   let b := zdP l f (za6 l a.2 [116, 104, 101, 110]) 0
   let c := zdP l f (za6 l b.2 [101, 108, 115, 101]) 0
   (.mk 13 0 0 [] [a.1, b.1, c.1], c.2)
  else if k = 0 then zdP l f S 1
  else if k = 3 /\ isR l S [110, 111, 116] = true then
   let a := zdP l f S.adv 3
   (.mk 12 0 0 [] [a.1], a.2)
  else if k = 7 then zgp l f S
  else
   let a := zdP l f S (k + 1)
   if k = 3 then a else zl4 l f k a.1 a.2
def zl4 (l : List Tok) : Nat -> Int -> Exp -> RS -> Exp × RS
 | 0, _, e, S => (e, S)
 | f + 1, k, e, S => match znR l S with
  | none => (e, S)
  | some x => if x.form ≠ k then (e, S) else
   let b := zdP l f S.adv (k + 1)
   if k = 4 then (.mk x.op 0 0 [] [e, b.1], b.2) else zl4 l f k (.mk x.op 0 0 [] [e, b.1]) b.2
def zgp (l : List Tok) : Nat -> RS -> Exp × RS
 | 0, S => (zbB, S)
 | f + 1, S =>
  if (zbw l S).kind = 2 then
   if isR l S.adv [99, 111, 105, 110, 115] = true then (.mk 0 (zbw l S).n 3 [] [], S.adv.adv)
   else if isR l S.adv [100, 97, 121, 115] = true then (.mk 0 (zbw l S).n 2 [] [], S.adv.adv)
   else if isR l S.adv [112, 101, 114] = true then (.mk 0 (zbw l S).n 4 [] [], za6 l S.adv.adv [109, 105, 108, 108, 101])
   else (.mk 0 (zbw l S).n 1 [] [], S.adv)
  else if isR l S [116, 114, 117, 101] = true then (.mk 0 1 0 [] [], S.adv)
  else if isR l S [102, 97, 108, 115, 101] = true then (zbB, S.adv)
  else if (zbw l S).text = [109, 105, 110] \/ (zbw l S).text = [109, 97, 120] then
   let a := zdP l f (za6 l S.adv [40]) 0
   let b := zdP l f (za6 l a.2 [44]) 0
   (.mk (if (zbw l S).text = [109, 105, 110] then 6 else 7) 0 0 [] [a.1, b.1], za6 l b.2 [41])
  else if isR l S [40] = true then
   let a := zdP l f S.adv 0
   (a.1, za6 l a.2 [41])
  else if (zbw l S).kind = 1 /\ zb3 (zbw l S).text = true then (.mk 1 0 0 (zbw l S).text [], S.adv)
  else (zbB, zbm l S 12)
end
theorem ziS {l : List Tok} {S : RS} (h : S.err ≠ 0) : zbw l S = zsT := by rw [zbw, if_pos h]
theorem zfG {l : List Tok} {S : RS} (h : S.err ≠ 0) (w : W8) : isR l S w = false := by simp [isR, ziS h]
theorem zg8 {l : List Tok} {S : RS} (h : S.err ≠ 0) (e : Int) : zbm l S e = S := by rw [zbm, if_neg h]
theorem zaX {l : List Tok} {S : RS} (h : S.err ≠ 0) (w : W8) : za6 l S w = S := by rw [za6, zfG h, if_neg (by simp), zg8 h]
theorem zq2 {l : List Tok} {S : RS} (h : S.err ≠ 0) : znR l S = none := by
 rw [znR, List.find?_eq_none];intro o _;simp [zfG h]
theorem zcx {l : List Tok} {S : RS} (h : S.err ≠ 0) (f : Nat) (k : Int) : zdP l f S k = (zbB, S) := by
 cases f with
 | zero => rw [zdP]
 | succ f => rw [zdP, if_pos h]
theorem zoJ {l : List Tok} {S : RS} (h : S.err ≠ 0) (f : Nat) (k : Int) (e : Exp) : zl4 l f k e S = (e, S) := by
 cases f with
 | zero => rw [zl4]
 | succ f => rw [zl4, zq2 h]
theorem zbG {l : List Tok} {q : Nat} {t : Tok} (h : l[q]? = some t) : zbw l ⟨q, 0, 0⟩ = t := by simp [zbw, h]
theorem zeR (l : List Tok) (q : Nat) (w : W8) : isR l ⟨q, 0, 0⟩ w = isB l q w := by
 unfold isR isB zbw;simp only [ne_eq, not_true, if_false];cases l[q]? <;> simp
theorem zrU (l : List Tok) (q : Nat) : znR l ⟨q, 0, 0⟩ = zf1 l q := by
 unfold znR zf1
 congr 1
 exact funext fun o => zeR l q o.text
def Agree {α : Type} (x : α × RS) : PR α -> Prop
 | .ok a q => x = (a, ⟨q, 0, 0⟩)
 | .stop pos e => e ≠ 0 /\ x.2.err = e /\ x.2.pos = pos
def AgreeS (S : RS) : PR Unit -> Prop
 | .ok _ q => S = ⟨q, 0, 0⟩
 | .stop pos e => e ≠ 0 /\ S.err = e /\ S.pos = pos
theorem Agree.ways {α : Type} {x : α × RS} {r : PR α} (h : Agree x r) : (∃ a q, r = .ok a q /\ x = (a, ⟨q, 0, 0⟩)) \/ (∃ pos e, r = .stop pos e /\ x.2.err ≠ 0 /\ e ≠ 0 /\ x.2.err = e /\ x.2.pos = pos) := by
 cases r with
 | ok a q => exact .inl ⟨a, q, rfl, h⟩
 | stop pos e => exact .inr ⟨pos, e, rfl, h.2.1 ▸ h.1, h⟩
theorem AgreeS.ways {S : RS} {r : PR Unit} (h : AgreeS S r) : (∃ q, r = .ok () q /\ S = ⟨q, 0, 0⟩) \/ (∃ pos e, r = .stop pos e /\ S.err ≠ 0 /\ e ≠ 0 /\ S.err = e /\ S.pos = pos) := by
 cases r with
 | ok a q => exact .inl ⟨q, rfl, h⟩
 | stop pos e => exact .inr ⟨pos, e, rfl, h.2.1 ▸ h.1, h⟩
theorem zcQ (l : List Tok) (q : Nat) (e : Int) (he : e ≠ 0) : AgreeS (zbm l ⟨q, 0, 0⟩ e) (.stop (zbL l q) e) := by
 refine ⟨he, by simp [zbm], ?_⟩;simp only [zbm, zbw, zbL, ne_eq, not_true, if_false, if_true];cases l[q]? <;> rfl
theorem zdp (l : List Tok) (q : Nat) (w : W8) : AgreeS (za6 l ⟨q, 0, 0⟩ w) (zbd l q [w]) := by
 rw [za6, zbd, zeR];by_cases h : isB l q w = true
 ·rw [if_pos h, if_pos h, zbd]; rfl
 ·rw [if_neg h, if_neg h]; exact zcQ l q 12 (by decide)
theorem zlc {l : List Tok} (hl : TokOK l) (hE : ∀ (i : Nat) (t : Tok), l[i]? = some t -> t.kind = 0 -> t.text = []) : ∀ f : Nat,
  (∀ (p : Nat) (k : Int), p < l.length -> 0 <= k -> k <= 7 -> 10 * (l.length - p) + 9 <= f + k.toNat -> Agree (zdP l f ⟨p, 0, 0⟩ k) (zfx l p k)) /\
  (∀ (p : Nat) (k : Int) (e : Exp), p < l.length -> 1 <= k -> k <= 6 -> 10 * (l.length - p) + 1 <= f -> Agree (zl4 l f k e ⟨p, 0, 0⟩) (zl5 l k e p)) /\
  (∀ (p : Nat), p < l.length -> 10 * (l.length - p) + 1 <= f -> Agree (zgp l f ⟨p, 0, 0⟩) (zjS l p))
 | 0 => ⟨fun p k h _ _ h2 => by omega, fun p k e h _ _ h2 => by omega, fun p h h2 => by omega⟩
 | f + 1 => by
  obtain ⟨he, hlo, hpm⟩ := zlc hl hE f;refine ⟨fun p k hp hk0 hk7 hf => ?_, fun p k e hp hk1 hk6 hf => ?_, fun p hp hf => ?_⟩
  ·rw [zdP, if_neg (by simp)];by_cases h0 : k = 0
   ·subst h0;rw [zeR, zo1 hl hp];by_cases hi : isB l p [105, 102] = true
    ·have hp2 := zaO hl hi;rw [if_pos ⟨rfl, hi⟩, if_pos hi];simp only [RS.adv];rcases (he (p + 1) 0 hp2 (by omega) (by omega) (by simp; omega)).ways with ⟨a, q1, h1, x1⟩ | ⟨pos, e, h1, x1, x2⟩
     ·have g1 := zcR hl h1 hp2;rw [h1, PR.zaB, x1];simp only;rcases (zdp l q1 [116, 104, 101, 110]).ways with ⟨q2, h2, x2⟩ | ⟨pos, e, h2, x2, x3⟩
      ·have g2 := zaJ hl _ h2 g1.2;rw [h2, PR.zaB, x2];rcases (he q2 0 g2.2 (by omega) (by omega) (by simp; omega)).ways with ⟨b, q3, h3, x3⟩ | ⟨pos, e, h3, x3, x4⟩
       ·have g3 := zcR hl h3 g2.2;rw [h3, PR.zaB, x3];simp only;rcases (zdp l q3 [101, 108, 115, 101]).ways with ⟨q4, h4, x4⟩ | ⟨pos, e, h4, x4, x5⟩
        ·have g4 := zaJ hl _ h4 g3.2;rw [h4, PR.zaB, x4];rcases (he q4 0 g4.2 (by omega) (by omega) (by simp; omega)).ways with ⟨c, q5, h5, x5⟩ | ⟨pos, e, h5, x5, x6⟩
         ·rw [h5, PR.zaB, x5]; rfl
         ·rw [h5, PR.zax]; exact x6
        ·rw [h4, PR.zax, zcx x4]; exact x5
       ·rw [h3, PR.zax, zaX x3, zcx x3]; exact x4
      ·rw [h2, PR.zax, zcx x2]; simp only [zaX x2, zcx x2]; exact x3
     ·rw [h1, PR.zax]; simp only [zaX x1, zcx x1]; exact x2
    ·rw [if_neg (fun h => hi h.2), if_pos rfl, if_neg hi];exact he p 1 hp (by omega) (by omega) (by simp at hf ⊢; omega)
   ·rw [if_neg (fun h => h0 h.1), if_neg h0];by_cases h3 : k = 3
    ·subst h3;rw [zeR, znq hl hp];by_cases hi : isB l p [110, 111, 116] = true
     ·have hp2 := zaO hl hi;rw [if_pos ⟨rfl, hi⟩, if_pos hi];simp only [RS.adv];rcases (he (p + 1) 3 hp2 (by omega) (by omega) (by simp at hf ⊢; omega)).ways with ⟨a, q1, h1, x1⟩ | ⟨pos, e, h1, x1, x2⟩
      ·rw [h1, PR.zaB, x1]; rfl
      ·rw [h1, PR.zax]; exact x2
     ·rw [if_neg (fun h => hi h.2), if_neg (by omega), if_neg hi];simp only [if_true];exact he p 4 hp (by omega) (by omega) (by simp at hf ⊢; omega)
    ·rw [if_neg (fun h => h3 h.1)];by_cases h7 : k = 7
     ·subst h7;rw [if_pos rfl, znr hl hp];exact hpm p hp (by simp at hf ⊢; omega)
     ·rw [if_neg h7, zp8 hl hp (by omega)];simp only [if_neg h3];rcases (he p (k + 1) hp (by omega) (by omega) (by omega)).ways with ⟨a, q1, h1, x1⟩ | ⟨pos, e, h1, x1, x2⟩
      ·have g1 := zcR hl h1 hp;rw [h1, PR.zaB, x1];exact hlo q1 k a g1.2 (by omega) (by omega) (by omega)
      ·rw [h1, PR.zax, zoJ x1]; exact x2
  ·rw [zl4, zlt hl hp, zrU];cases hx : zf1 l p with
   | none => rfl
   | some x =>
    simp only;by_cases hfk : x.form ≠ k
    ·rw [if_pos hfk, if_pos hfk]; rfl
    ·rw [if_neg hfk, if_neg hfk];have hp2 := zoj hl hx;simp only [RS.adv];rcases (he (p + 1) (k + 1) hp2 (by omega) (by omega) (by omega)).ways with ⟨a, q1, h1, x1⟩ | ⟨pos, e, h1, x1, x2⟩
     ·have g1 := zcR hl h1 hp2;rw [h1, PR.zaB, x1];split
      ·rfl
      ·exact hlo q1 k _ g1.2 hk1 hk6 (by omega)
     ·rw [h1, PR.zax];split
      ·exact x2
      ·rw [zoJ x1]; exact x2
  ·obtain ⟨t, ht⟩ : ∃ t, l[p]? = some t := ⟨_, List.getElem?_eq_getElem hp⟩;rw [zgp, zpJ hl ht];simp only [zbG ht, zeR, RS.adv];have htx : ∀ w : W8, w ≠ [] -> (t.text = w ↔ isB l p w = true) := fun w hw => by
    simp only [isB, ht, Bool.and_eq_true, decide_eq_true_eq];exact ⟨fun h => ⟨fun h0 => hw (by rw [<- h, hE p t ht h0]), h⟩, fun h => h.2⟩
   by_cases h2 : t.kind = 2
   ·have hp2 := hl.fin p t ht (by omega);rw [if_pos h2, if_pos h2];unfold zhP;split
    ·rfl
    ·split
     ·rfl
     ·split
      ·rcases (zdp l (p + 1 + 1) [109, 105, 108, 108, 101]).ways with ⟨q2, h2, x2⟩ | ⟨pos, e, h2, x2, x3⟩
       ·rw [h2, x2]; rfl
       ·rw [h2]; exact x3
      ·rfl
   ·rw [if_neg h2, if_neg h2];split
    ·rfl
    ·split
     ·rfl
     ·have e1 : (t.text = [109, 105, 110] \/ t.text = [109, 97, 120]) ↔ (isB l p [109, 105, 110] = true \/ isB l p [109, 97, 120] = true) := by rw [htx _ (by simp), htx _ (by simp)]
      by_cases hm : isB l p [109, 105, 110] = true \/ isB l p [109, 97, 120] = true
      ·rw [if_pos (e1.2 hm), if_pos hm];have hp2 : p + 1 < l.length := hm.elim (zaO hl) (zaO hl);have e2 : (if t.text = [109, 105, 110] then (6 : Int) else 7) = if isB l p [109, 97, 120] = true then 7 else 6 := by
        by_cases hx : t.text = [109, 105, 110]
        ·rw [if_pos hx, if_neg];rw [<- htx _ (by simp), hx]; decide
        ·rw [if_neg hx, if_pos];rcases hm with h | h
         ·exact absurd ((htx _ (by simp)).2 h) hx
         ·exact h
       rw [e2];generalize (if isB l p [109, 97, 120] = true then (7 : Int) else 6) = OP;rcases (zdp l (p + 1) [40]).ways with ⟨q1, h1, x1⟩ | ⟨pos, e, h1, x1, x2⟩
       ·have g1 := zaJ hl _ h1 hp2;rw [h1, PR.zaB, x1];rcases (he q1 0 g1.2 (by omega) (by omega) (by simp; omega)).ways with ⟨a, q2, h2, x2⟩ | ⟨pos, e, h2, x2, x3⟩
        ·have g2 := zcR hl h2 g1.2;rw [h2, PR.zaB, x2];simp only;rcases (zdp l q2 [44]).ways with ⟨q3, h3, x3⟩ | ⟨pos, e, h3, x3, x4⟩
         ·have g3 := zaJ hl _ h3 g2.2;rw [h3, PR.zaB, x3];rcases (he q3 0 g3.2 (by omega) (by omega) (by simp; omega)).ways with ⟨b, q4, h4, x4⟩ | ⟨pos, e, h4, x4, x5⟩
          ·have g4 := zcR hl h4 g3.2;rw [h4, PR.zaB, x4];simp only;rcases (zdp l q4 [41]).ways with ⟨q5, h5, x5⟩ | ⟨pos, e, h5, x5, x6⟩
           ·rw [h5, PR.zaB, x5]; rfl
           ·rw [h5, PR.zax]; exact x6
          ·rw [h4, PR.zax, zaX x4]; exact x5
         ·rw [h3, PR.zax, zcx x3, zaX x3]; exact x4
        ·rw [h2, PR.zax]; simp only [zaX x2, zcx x2]; exact x3
       ·rw [h1, PR.zax]; simp only [zaX x1, zcx x1]; exact x2
      ·rw [if_neg (fun h => hm (e1.1 h)), if_neg hm];by_cases h40 : isB l p [40] = true
       ·rw [if_pos h40, if_pos h40];have hp2 := zaO hl h40;rcases (he (p + 1) 0 hp2 (by omega) (by omega) (by simp; omega)).ways with ⟨a, q2, h2, x2⟩ | ⟨pos, e, h2, x2, x3⟩
        ·rw [h2, PR.zaB, x2];simp only;rcases (zdp l q2 [41]).ways with ⟨q3, h3, x3⟩ | ⟨pos, e, h3, x3, x4⟩
         ·rw [h3, PR.zaB, x3]; rfl
         ·rw [h3, PR.zax]; exact x4
        ·rw [h2, PR.zax, zaX x2]; exact x3
       ·rw [if_neg h40, if_neg h40];split
        ·rfl
        ·have := zcQ l p 12 (by decide);rw [zbL, ht] at this;exact this
end Go.Proofs.YthnemhfamhnfjaaGreatDoor
namespace Go.Proofs.YthnemhfamhnfjaaGreatDoor
open Go Go.VL
theorem zpd {a b c : Exp} : zcc (.mk 13 0 0 [] [a, b, c]) = [105, 102] :: (zfB a 0 ++ [116, 104, 101, 110] :: (zfB b 0 ++ [101, 108, 115, 101] :: zfB c 0)) := by
 rw [zcc, zfM, if_neg (by decide), if_neg (by decide), if_pos rfl, zd7 (a := a) rfl, zd7 (a := b) rfl, zd7 (a := c) rfl];simp
theorem zmq {a : Exp} : zcc (.mk 12 0 0 [] [a]) = [110, 111, 116] :: zfB a 3 := by
 rw [zcc, zfM, if_neg (by decide), if_neg (by decide), if_neg (by decide), if_pos rfl, zd7 (a := a) rfl]
theorem zmr {a b : Exp} : zcc (.mk 6 0 0 [] [a, b]) = [109, 105, 110] :: [40] :: (zfB a 0 ++ [44] :: (zfB b 0 ++ [[41]])) := by
 rw [zcc, zfM, if_neg (by decide), if_neg (by decide), if_neg (by decide), if_neg (by decide), if_pos rfl, zd7 (a := a) rfl, zd7 (a := b) rfl]; simp
theorem zms {a b : Exp} : zcc (.mk 7 0 0 [] [a, b]) = [109, 97, 120] :: [40] :: (zfB a 0 ++ [44] :: (zfB b 0 ++ [[41]])) := by
 rw [zcc, zfM, if_neg (by decide), if_neg (by decide), if_neg (by decide), if_neg (by decide), if_neg (by decide), if_pos rfl, zd7 (a := a) rfl, zd7 (a := b) rfl]; simp
theorem zmp {a b : Exp} {o : Opr} (ho : o ∈ oprs) : zcc (.mk o.op 0 0 [] [a, b]) = zfB a (if o.form = 4 then 5 else o.form) ++ o.text :: zfB b (o.form + 1) := by
 have hfind : oprs.find? (fun x => decide (x.op = o.op)) = some o := by
  simp only [oprs, List.mem_cons, List.mem_nil_iff, or_false] at ho;rcases ho with rfl | rfl | rfl | rfl | rfl | rfl | rfl | rfl <;> rfl
 have hne : o.op ≠ 0 /\ o.op ≠ 1 /\ o.op ≠ 13 /\ o.op ≠ 12 /\ o.op ≠ 6 /\ o.op ≠ 7 := by
  simp only [oprs, List.mem_cons, List.mem_nil_iff, or_false] at ho;rcases ho with rfl | rfl | rfl | rfl | rfl | rfl | rfl | rfl <;> decide
 obtain ⟨n0, n1, n13, n12, n6, n7⟩ := hne;rw [zcc, zfM, if_neg n0, if_neg n1, if_neg n13, if_neg n12, if_neg n6, if_neg n7, hfind];simp only;rw [zd7 (a := a) rfl, zd7 (a := b) rfl]
def AllGood (ws : List W8) : Prop := ∀ w ∈ ws, GoodW w
theorem AllGood.nil : AllGood [] := fun _ h => by cases h
theorem AllGood.cons {w : W8} {ws : List W8} (h : GoodW w) (h2 : AllGood ws) : AllGood (w :: ws) := fun x hx => by
 rcases List.mem_cons.1 hx with rfl | hx
 ·exact h
 ·exact h2 x hx
theorem AllGood.app {a b : List W8} (h : AllGood a) (h2 : AllGood b) : AllGood (a ++ b) := fun x hx => by
 rcases List.mem_append.1 hx with hx | hx
 ·exact h x hx
 ·exact h2 x hx
end Go.Proofs.YthnemhfamhnfjaaGreatDoor
namespace Go.Proofs.YthnemhfamhnfjaaGreatDoor
open Go Go.VL
def spW : List W8 -> List (W8 × W8)
 | [] => []
 | [w] => [(w, [])]
 | w :: v :: l => (w, [32]) :: spW (v :: l)
def zbU (ws : List W8) : W8 := zlx (spW ws)
theorem zbr (w v : W8) (l : List W8) : zbU (w :: v :: l) = w ++ [32] ++ zbU (v :: l) := by simp [zbU, spW, zlx]
theorem zcP : ∀ (a b : List W8), a ≠ [] -> b ≠ [] -> zbU (a ++ b) = zbU a ++ [32] ++ zbU b
 | [], b, h, _ => absurd rfl h
 | [w], b, _, hb => by
  cases b with
  | nil => exact absurd rfl hb
  | cons v l => rw [List.singleton_append, zbr]; simp [zbU, spW, zlx]
 | w :: v :: l, b, _, hb => by
  have := zcP (v :: l) b (by simp) hb;rw [List.cons_append, List.cons_append, zbr, zbr, <- List.cons_append, this];simp
end Go.Proofs.YthnemhfamhnfjaaGreatDoor
namespace Go.Proofs.YthnemhfamhnfjaaGreatDoor
open Go Go.VL
abbrev rOb (l : List Tok) (S : RS) : Ob := .box [.u (zbf l), .u (.int .i64 S.q), .u (.int .i64 S.err), .u (.int .i64 S.pos)]
abbrev zdw (l : List Tok) (S : RS) : U := .row [zbf l, .int .i64 S.q, .int .i64 S.err, .int .i64 S.pos] 0
def VS (l : List Tok) (S : RS) : Prop := S.err ≠ 0 \/ S.err = 0 /\ S.pos = 0 /\ S.q < l.length
def Nx (l : List Tok) (S S' : RS) : Prop := S'.err ≠ 0 \/ S'.err = 0 /\ S'.pos = 0 /\ S.q <= S'.q /\ S'.q < l.length
theorem Nx.vs {l : List Tok} {S S' : RS} (h : Nx l S S') : VS l S' := h.elim .inl fun h => .inr ⟨h.1, h.2.1, h.2.2.2⟩
theorem Nx.trans {l : List Tok} {A B C : RS} (h : Nx l A B) (g : Nx l B C) (hb : B.err ≠ 0 -> C.err ≠ 0) : Nx l A C := by
 rcases h with h | ⟨_, _, h3, _⟩
 ·exact .inl (hb h)
 ·rcases g with g | ⟨g1, g2, g3, g4⟩
  ·exact .inl g
  ·exact .inr ⟨g1, g2, by omega, g4⟩
theorem VS.ways {l : List Tok} {S : RS} (h : VS l S) : S.err ≠ 0 \/ ∃ q, S = ⟨q, 0, 0⟩ /\ q < l.length := by
 rcases h with h | ⟨h1, h2, h3⟩
 ·exact .inl h
 ·obtain ⟨q, e, p⟩ := S;simp only at h1 h2 h3;subst h1; subst h2;exact .inr ⟨q, rfl, h3⟩
theorem zmc {l : List Tok} (hl : TokOK l) {S : RS} (hv : VS l S) {w : W8} (h : isR l S w = true) : ∃ q, S = ⟨q, 0, 0⟩ /\ q + 1 < l.length := by
 rcases hv.ways with hv | ⟨q, rfl, hq⟩
 ·rw [zfG hv] at h; cases h
 ·rw [zeR] at h; exact ⟨q, rfl, zaO hl h⟩
theorem zb6 {l : List Tok} (hl : TokOK l) {S : RS} (hv : VS l S) {w : W8} (h : isR l S w = true) : Nx l S S.adv := by
 obtain ⟨q, rfl, hq⟩ := zmc hl hv h;exact .inr ⟨rfl, rfl, by simp [RS.adv], hq⟩
theorem zo0 {l : List Tok} {S : RS} (e : Int) (he : e ≠ 0) : Nx l S (zbm l S e) := by
 unfold zbm;by_cases h : S.err = 0
 ·rw [if_pos h]; exact .inl he
 ·rw [if_neg h]; exact .inl h
theorem zbz {l : List Tok} (hl : TokOK l) {S : RS} (hv : VS l S) (w : W8) : Nx l S (za6 l S w) := by
 unfold za6;split
 ·rename_i h; exact zb6 hl hv h
 ·exact zo0 12 (by decide)
def zcJ (l : List Tok) : Prop := ∀ (i : Nat) (t : Tok), l[i]? = some t -> t.kind = 0 -> t.text = []
theorem zfb {l : List Tok} (hl : TokOK l) (hE : zcJ l) {f : Nat} {S : RS} {k : Int} (hv : VS l S) (h0 : 0 <= k) (h7 : k <= 7) (hf : S.err = 0 -> 10 * (l.length - S.q) + 9 <= f + k.toNat) : Nx l S (zdP l f S k).2 := by
 rcases hv.ways with hb | ⟨q, rfl, hq⟩
 ·rw [zcx hb]; exact .inl hb
 ·rcases ((zlc hl hE f).1 q k hq h0 h7 (hf rfl)).ways with ⟨a, r, h1, h2⟩ | ⟨pos, e, h1, h2, _⟩
  ·rw [h2];have g := zcR hl h1 hq;exact .inr ⟨rfl, rfl, g.1, g.2⟩
  ·exact .inl h2
def zrV (t : Tok) : Option Opr := if t.kind = 0 then none else oprs.find? fun o => decide (t.text = o.text)
theorem zq3 (l : List Tok) (S : RS) : znR l S = zrV (zbw l S) := by
 unfold znR zrV isR;by_cases h : (zbw l S).kind = 0
 ·rw [if_pos h, List.find?_eq_none]; intro o _; simp [h]
 ·rw [if_neg h]; simp [h]
def zmX : Option Opr -> Int
 | none => -1
 | some o => o.op
def zej : Option Opr -> Int
 | none => 0
 | some o => o.form
end Go.Proofs.YthnemhfamhnfjaaGreatDoor
namespace Go.Proofs.YthnemhfamhnfjaaGreatDoor
open Go Go.VL Go.Shelf Go.RowKit
theorem zpB {k : Kr} {d e : D} {vs : Array Value} (h : RepL k [d, e] vs) : ∃ v u, vs = #[v, u] /\ Rep k d v /\ Rep k e u := by
 obtain ⟨h1, h2⟩ := h;have hs : vs.size = 2 := by simpa using h1
 refine ⟨vs.getD 0 undef, vs.getD 1 undef, ?_, h2 0 d rfl, h2 1 e rfl⟩;apply Array.ext_getElem?;intro i
 match i with
 | 0 => simp [show 0 < vs.size by omega]
 | 1 => simp [show 1 < vs.size by omega]
 | i + 2 => rw [Array.getElem?_eq_none (by omega), Array.getElem?_eq_none (by simp)]
theorem zmP {k : Kr} {rows : List (List U)} {v : Value} (h : Rep k (.u (.sl rows)) v) : (rows = [] /\ ∃ a c, v = .slice a 0 c) \/ ∃ (b o sz c : Nat) (f : Nat -> Nat -> Value), v = .slice (some ⟨b, o, none⟩) rows.length c /\ rows.length <= c /\ (∀ r ∈ rows, r.length = sz) /\
  (∀ i, i < rows.length -> ∀ j, j < sz -> k.mem b (o + i * sz + j) = some (.val (f i j))) /\ ∀ i r, rows[i]? = some r -> ∀ j u, r[j]? = some u -> RepU k.mem u (f i j) := by
 cases h with
 | u _ _ h => cases h with
  | slE a c _ => exact .inl ⟨rfl, a, c, rfl⟩
  | sl _ b o sz c f hc hx hsz hm hr => exact .inr ⟨b, o, sz, c, f, rfl, hc, hsz, hm, hr⟩
theorem zp4 (ws : List W8) : zbU ws = Lib.join ws [32] := by
 induction ws with
 | nil => rfl
 | cons w l ih =>
  cases l with
  | nil => simp [zbU, spW, zlx, Lib.join_one]
  | cons v l => rw [zbr, ih, Lib.join_cons, Lib.join_cons]; simp [Lib.joinTail]
theorem zma (ws : List W8) (hlen : (zbU ws).length <= 140737488355328) (hN : ws.length <= 140737488355328) : Fun Tryz.prog 54 [.u (.sl (ws.map fun w => [.str w])), .u (.str [32])] (· = .u (.str (zbU ws))) :=
 Fun.zpp fun k own w vs hsat hrep => by
  obtain ⟨v, u, rfl, hv, hu⟩ := zpB hrep;have hu := zeZ hu;subst hu;have hsep : ([32] : List UInt8) = (⟨([32] : List UInt8).toArray⟩ : ByteArray).data.toList := rfl;have none : ∀ a c, ws = [] -> v = .slice a 0 c -> ∃ v', RepU k.mem (.str (zbU ws)) v' /\ Calls Tryz.prog 54 #[v, .string ⟨([32] : List UInt8).toArray⟩] w fun e w' => e = .returned v' /\ Below w.heap.size w w' := fun a c hw hv => by
   subst hv; subst hw;exact ⟨.string ⟨#[]⟩, .str [], (Tryz.strings_Join_none a c _ w).mono fun e w' ⟨h1, h2⟩ => ⟨h1, h2 ▸ Below.refl _ _⟩⟩
  rcases zmP hv with ⟨he, a, c, rfl⟩ | ⟨b, o, sz, c, f, rfl, hc, hsz, hm, hrr⟩
  ·exact none a c (by simpa using he) rfl
  rw [List.length_map] at hc hm hv none ⊢;by_cases hw : ws = []
  ·have h0 : ws.length = 0 := by rw [hw]; rfl
   rw [h0] at none ⊢;exact none _ c hw rfl
  obtain ⟨w0, r0, e0⟩ : ∃ w0 r0, ws = w0 :: r0 := by cases ws with | nil => exact absurd rfl hw | cons a l => exact ⟨a, l, rfl⟩
  have hs1 : sz = 1 := by
   have := hsz [U.str w0] (by rw [e0]; simp);simpa using this.symm
  subst hs1;have hcell : ∀ (j : Nat) x, (ws.map fun w => (⟨w.toArray⟩ : ByteArray))[j]? = some x -> w.cell? ⟨b, o + j, Option.none⟩ = some (.string x) := fun j x hj => by
   rw [List.getElem?_map] at hj;cases hwj : ws[j]? with
   | none => rw [hwj] at hj; cases hj
   | some y =>
    rw [hwj] at hj;cases hj;have hjl := (lGE.1 hwj).1;have h1 := hm j hjl 0 Nat.one_pos;have h2 := hrr j [U.str y] (by simp [hwj]) 0 _ rfl;have h3 : f j 0 = .string ⟨y.toArray⟩ := (fun z (hz : RepU k.mem (U.str y) z) => by cases hz; rfl : ∀ z, RepU k.mem (U.str y) z -> z = .string ⟨y.toArray⟩) _ h2;have h4 := hsat.cell h1;rw [h3] at h4;simpa using h4
  have hlt : b < w.heap.size := hsat.memLt (hm 0 (by rw [e0]; simp) 0 Nat.one_pos);have hj := Tryz.strings_Join b o c (ws.map fun w => (⟨w.toArray⟩ : ByteArray)) ⟨([32] : List UInt8).toArray⟩ w hcell hlt (by rw [List.length_map]; exact hN) (by rw [List.length_map]; exact hc);have hmm : (ws.map fun w => (⟨w.toArray⟩ : ByteArray)).map (·.data.toList) = ws := by simp [Function.comp_def]
  rw [hmm, List.length_map] at hj;rw [zp4] at hlen ⊢;exact ⟨_, .str _, hj hlen⟩
theorem zpC {k : Kr} {own obs} {w : World} (h : Sat k own obs w) : Lib.TabIs Tryz.prog w "internal/strconv.uint64pow10" .u64 Lib.pow10Tab := by
 have he : globs.head! = (globs.head!.1, Lib.pow10Tab.map fun z => Value.int .u64 z) := rfl;have hm : globs.head! ∈ globs := by unfold globs; exact List.mem_cons_self
 obtain ⟨h1, h2⟩ := k.glob _ hm;rw [he] at h1 h2;simp only [List.length_map, Lib.pow10Tab_length] at h1 h2;obtain ⟨cs, t, fr, h3, h4⟩ := zpU (h.mem _ _ _ h2);have h5 : Tryz.prog.globalNamed "internal/strconv.uint64pow10" = some globs.head!.1 := by kernel_rfl
 unfold Lib.TabIs World.var?;rw [h5, Option.bind_some, h3];simp only [Option.some.injEq];apply Array.ext_getElem?;intro j;by_cases hj : j < 20
 ·have h6 := h.cell (h1 j hj);have h7 : cs[j]? = some ((Lib.pow10Tab.map fun z => Value.int .u64 z).getD j undef) := by simpa [World.cell?, h3] using h6
  rw [h7];simp [List.getD, Lib.pow10Tab_length, hj]
 ·rw [Array.getElem?_eq_none (by omega), Array.getElem?_eq_none (by simp [Lib.pow10Tab_length]; omega)]
theorem zmb (n : Int) (h0 : -9223372036854775808 <= n) (h1 : n <= 9223372036854775807) : Fun Tryz.prog 56 [.u (.int .i64 n)] (· = .u (.str (Lib.itoa n))) :=
 Fun.zpp fun k own w vs hsat hrep => by
  obtain ⟨v, rfl, hv⟩ := ziQ hrep;have hv := zbE hv;subst hv;refine ⟨_, .str _, (Tryz.strconv_Itoa n h0 h1 w (zpC hsat)).mono ?_⟩;rintro e w' ⟨h1, q, os, rfl⟩;refine ⟨h1, rfl, rfl, rfl, ?_, fun x hx => ?_⟩
  ·show w.heap.size <= (w.heap ++ os).size;simp
  ·show (w.heap ++ os)[x]? = w.heap[x]?;rw [Array.getElem?_append_left hx]
end Go.Proofs.YthnemhfamhnfjaaGreatDoor
namespace Go.Proofs.YthnemhfamhnfjaaGreatDoor
open Go Go.VL
attribute [local simp] zdS zcz evPure opd uOf zaN St.put St.at getK binD binI binS binB nilD aggD zjm zkZ lookD lookR zdv Go.VL.nextD zdz zlv zk0 zid zc5 mkV zep zbT zb7 mapEff zfk zhO Key.kk shiftI arith unD convD zfC loadD cellsAt fieldAddrD fieldD indexAddrD indexD sliceD cutD lenD minmaxD nilCheckD buildD fillD zcs zd9 zf2 setAll zdC zgj zdo zkH zde St.add za8 zct rowsOf ze5 zdq zal zac zaa zbK zd4 zbo entry zcb zck valD zcB zc6 zjf zen zeo zcw zch zaE zba zbX delAll effD St.effS zeq zbM zbs zer zbN zbu zc7 zbt zbg zc8 zeb zcu zc0 zb1 zcY zcZ zaL mkD zcp zce zcg zaE zdk D.ids Op.operands Call.operands zcq makeIfD makeFuncD typeAssertD zkY zeT zeU zkV zdx IntKind.bits zdG List.take_of_length_le List.range_succ
attribute [local irreducible] V G H HD HD2 zap Eff CallP CallV EndOK Fun Ret FinOK LoopI LoopW EndW
theorem zoz (s : List UInt8) : Fun Tryz.prog 32 [.u (.str s)] (· = zdY (zhM s)) := by
 unfold zhM;by_cases hlong : 2000 < s.length
 ·have hlong2 : 2000 < (s.length : Int) := by omega
  rw [if_pos hlong]
  (refine Fun.of_bodyW Tryz.func32 rfl (by simp) fun Γ hn => ?_); simp only [entry, ziC, ziN, maC, maN, oA, Tryz.ntmps32]
  repeat' (first
  | ((first | refine zag ?_ | refine zaj ?_ | refine zah ?_ | refine zai ?_ | fail); simp [hlong, hlong2])
  | (refine zaq ?_; simp only [zap])
  | fail)
  refine EndW.norm (EndW.here ?_)
  (refine EndOK.val (.inr rfl) ?_; simp [zaA, zae, zar, Tryz.results32, zay, zaz, zfo, zfp, frz, za5, frzS, fv, zaH, za2, za4, zaG, zau, zam, zaT, zaV, zaW, zaD])
  simp [zdY]
 rw [if_neg hlong];have hlong2 : ¬ 2000 < (s.length : Int) := by omega
 obtain ⟨R, hR⟩ : ∃ R, R = zht (s.length + 1) s 0 := ⟨_, rfl⟩;rw [<- hR]
 (refine Fun.of_bodyW Tryz.func32 rfl (by simp) fun Γ hn => ?_); simp only [entry, ziC, ziN, maC, maN, oA, Tryz.ntmps32]
 repeat' (first
  | ((first | refine zag ?_ | refine zaj ?_ | refine zah ?_ | refine zai ?_ | refine zat ?_ | fail); simp [hlong, hlong2])
  | (refine zao ?_; simp only [zap])
  | fail)
 refine zfH _ (Wk.own 5 52 4 (by decide) rfl) ?_;simp [St.own];refine zcT (α := { x : List Tok × Nat × Nat // x.2.1 <= s.length /\ s.length < x.2.1 + x.2.2 /\ x.1.length <= x.2.1 /\ R = zhR x.1 (zht x.2.2 s x.2.1) }) [0] (fun x => [(5, .vec 0 x.1.1.length), (6, .u (.int .i64 x.1.2.1))]) (fun x => [(0, .vec 52 4 (zfW x.1.1))]) 1 (fun x => x.1.2.2) ⟨([], 0, s.length + 1), by simp, by simp, by simp, by rw [zjT, hR]⟩ ?_ ?_
 ·exact (Wk.cut rfl (by simp [hn, St.lp]) (by simp [wkO, St.lp, zaa, getK, Ob.under, D.under, zad, zaf, zfW]) (by simp [wkU, St.lp, zan, zaa, getK, D.under, zfW]) (by simp [wkE, St.lp, zan, zaa, getK, zfW] <;> (try (intros; simp_all; done)) <;> (try (intros; omega)) <;> (try grind)))
 rintro ⟨⟨acc, p, f⟩, h1, h2, h3, h4⟩;simp only at h1 h2 h3 h4;simp [St.lp, St.only, zan, zaa, getK];obtain ⟨f', rfl⟩ : ∃ f', f = f' + 1 := ⟨f - 1, by omega⟩;rw [zht] at h4;have hsp := zfY (s.drop p) (by rw [List.length_drop]; omega) 76 zbi (fun c _ => zpe c) (by simp);have hle := zdT zbi (s.drop p);rw [List.length_drop] at hle;obtain ⟨b, hb⟩ : ∃ b, b = zbQ zbi (s.drop p) := ⟨_, rfl⟩;rw [<- hb] at hsp hle h4;have hp1 : (p : Int) <= s.length := by omega
 have hpb : (p : Int) + b <= s.length := by omega
 rcases hd : s.drop (p + b) with _ | ⟨c, r⟩
 ·have hdl : (s.drop (p + b)).length = 0 := by rw [hd]; rfl
  rw [List.length_drop] at hdl;have hpe : p + b = s.length := by omega
  have hpe2 : (p : Int) + b = s.length := by omega
  rw [hd] at h4;simp only at h4;have hap : zfW acc ++ [[D.u (.int .i64 0), D.u (.str []), D.u (.int .i64 0), D.u (.int .i64 (s.length : Int))]] = zfW (acc ++ [⟨0, [], 0, s.length⟩]) := by simp [zfW]
  have hlr : zkW 4 (zfW acc) := fun r hr => by obtain ⟨t, _, rfl⟩ := List.mem_map.1 hr; rfl
  rw [hpe] at h4
  repeat' (first
  | ((first | refine zag ?_ | refine zaj ?_ | fail); simp [h1, hp1, hpe2, zbn, hap, hlr])
  | (refine ⟨by omega, ?_⟩)
  | ((first | refine zah ?_ | refine zai ?_ | refine zat ?_ | fail); simp [h1, hp1, hpe2, zbn, hap, hlr])
  | (refine zaq ?_; simp only [zap])
  | (refine CallP.fE (hsp) (by first | rfl | fail) (by first | simp [h1, hp1, hpe2, zbn, hap, hlr] <;> rfl | fail) ?_; (try simp [h1, hp1, hpe2, zbn, hap, hlr]))
  | fail)
  (refine EndW.frzN 3 ?_; simp [frzN, frz1, zaz, zay, St.frz, St.frzS, frzS, fv, zaH, za2, za4, zaG, zau, zam, del, frz, za5, zgY, zbn, List.length_append])
  refine EndW.norm (EndW.here ?_)
  (refine EndOK.val (.inr rfl) ?_; simp [zaA, zae, zar, Tryz.results32, zay, zaz, zfo, zfp, frz, za5, frzS, fv, zaH, za2, za4, zaG, zau, zam, zaT, zaV, zaW, zaD, zgY, zbn, List.length_append])
  rw [h4];simp [zhR, zdY]
 ·have hdl : (s.drop (p + b)).length = r.length + 1 := by rw [hd]; rfl
  rw [List.length_drop] at hdl;have hpe : ¬ p + b = s.length := by omega
  have hpe2 : ¬ (p : Int) + b = s.length := by omega
  have hnx := zpQ (s.drop (p + b)) (by rw [hd]; simp) (by rw [List.length_drop]; omega);unfold nextD at hnx;rw [hd] at h4;simp only at h4;rw [hd] at hnx;have hpb2 : ((p : Int) + b).toNat = p + b := by omega
  have hpb3 : p + b <= s.length := by omega
  cases hno : zd8 (c :: r) with
  | error e =>
   rw [hno] at h4 hnx;have he : e ≠ 0 := by
    unfold zd8 at hno;simp only at hno;split at hno
    ·split at hno <;> cases hno;omega
    ·split at hno
     ·split at hno <;> cases hno;omega
     ·split at hno <;> cases hno;omega
   repeat' (first
  | ((first | refine zag ?_ | refine zaj ?_ | fail); simp [h1, hp1, hpe, hpe2, hd, he, hpb, hpb2, hpb3])
  | (refine ⟨by omega, ?_⟩)
  | ((first | refine zah ?_ | refine zai ?_ | refine zat ?_ | fail); simp [h1, hp1, hpe, hpe2, hd, he, hpb, hpb2, hpb3])
  | ((first | refine zaq ?_ | refine zao ?_ | fail); simp only [zap])
  | (refine CallP.fE (hsp) (by first | rfl | fail) (by first | simp [h1, hp1, hpe, hpe2, hd, he, hpb, hpb2, hpb3] <;> rfl | fail) ?_; (try simp [h1, hp1, hpe, hpe2, hd, he, hpb, hpb2, hpb3]))
  | (refine CallP.fE (hnx) (by first | rfl | fail) (by first | simp [h1, hp1, hpe, hpe2, hd, he, hpb, hpb2, hpb3] <;> rfl | fail) ?_; (try simp [h1, hp1, hpe, hpe2, hd, he, hpb, hpb2, hpb3]))
  | fail)
   refine EndW.norm (EndW.here ?_)
   (refine EndOK.val (.inr rfl) ?_; simp [zaA, zae, zar, Tryz.results32, zay, zaz, zfo, zfp, frz, za5, frzS, fv, zaH, za2, za4, zaG, zau, zam, zaT, zaV, zaW, zaD])
   rw [h4];simp [zhR, zdY]
  | ok t =>
   rw [hno] at h4 hnx;obtain ⟨ht1, ht2⟩ := zfq hno;simp only [List.length_cons] at ht2;have hap : zfW acc ++ [[D.u (.int .i64 t.kind), D.u (.str t.text), D.u (.int .i64 t.n), D.u (.int .i64 ((p : Int) + b))]] = zfW (acc ++ [{ t with pos := ((p + b : Nat) : Int) }]) := by simp [zfW]
   have hlr : zkW 4 (zfW acc) := fun r hr => by obtain ⟨t, _, rfl⟩ := List.mem_map.1 hr; rfl
   repeat' (first
  | ((first | refine zag ?_ | refine zaj ?_ | fail); simp [h1, hp1, hpe, hpe2, hd, hpb, hpb2, hpb3, zbn, hap, hlr])
  | (refine ⟨by omega, ?_⟩)
  | ((first | refine zah ?_ | refine zai ?_ | refine zat ?_ | refine zas ?_ | fail); simp [h1, hp1, hpe, hpe2, hd, hpb, hpb2, hpb3, zbn, hap, hlr])
  | (refine zao ?_; simp only [zap])
  | (refine CallP.fE (hsp) (by first | rfl | fail) (by first | simp [h1, hp1, hpe, hpe2, hd, hpb, hpb2, hpb3, zbn, hap, hlr] <;> rfl | fail) ?_; (try simp [h1, hp1, hpe, hpe2, hd, hpb, hpb2, hpb3, zbn, hap, hlr]))
  | (refine CallP.fE (hnx) (by first | rfl | fail) (by first | simp [h1, hp1, hpe, hpe2, hd, hpb, hpb2, hpb3, zbn, hap, hlr] <;> rfl | fail) ?_; (try simp [h1, hp1, hpe, hpe2, hd, hpb, hpb2, hpb3, zbn, hap, hlr]))
  | fail)
   refine LoopW.next ⟨(acc ++ [{ t with pos := ((p + b : Nat) : Int) }], p + b + t.text.length, f'), by simp; omega, by simp; omega, by simp; omega, ?_⟩ (by simp) ?_
   ·rw [h4];simp only;cases zht f' s (p + b + t.text.length) <;> simp [zhR]
   ·skip
    exact (Wk.ren ((fun i => if i = 0 then 3 else i)) rfl (by first | (simp [hn]; done) | (intro i hi; rw [hn] at hi; constructor <;> (try simp) <;> (try (intro _)) <;> omega)) (by simp [zgl, St.lp, zan, zaa, getK, zac, zal, D.under, D.le, D.ren, zcM, zcv] <;> (try (intros; simp_all; done)) <;> (try omega)) (by simp [wkR, St.lp, zaa, getK, zac, zal, obR, leU, zbe, zaR, Ob.under, D.under, D.le, D.ren, zcM, zcv] <;> (try (intros; simp_all; done)) <;> (try omega)) (by simp [zcM, zcv]))
abbrev zrN (o : Opr) : D := .u (.agg [.str o.text, .int .i64 o.op, .int .i64 o.form])
abbrev zmW (l : List Opr) : U := .sl (l.map fun o => [.str o.text, .int .i64 o.op, .int .i64 o.form])
theorem zeB : Fun Tryz.prog 97 [] (· = .u (zmW oprs)) := by
 unfold zmW oprs
 (refine Fun.of_bodyW Tryz.func97 rfl (by simp) fun Γ hn => ?_); simp only [entry, ziC, ziN, maC, maN, oA, Tryz.ntmps97]
 repeat' (first
  | ((first | refine zag ?_ | refine zaj ?_ | refine zah ?_ | fail); simp [zck, zcb])
  | (refine zaq ?_; simp only [zap])
  | fail)
 (refine EndW.frzN 1 ?_; simp [frzN, frz1, zaz, zay, St.frz, St.frzS, frzS, fv, zaH, za2, za4, zaG, zau, zam, del, frz, za5])
 refine EndW.here ?_
 (refine EndOK.val (.inr rfl) ?_; simp [zaA, zae, zar, Tryz.results97])
theorem zp9 (l : List Tok) (q : Nat) (o : Opr) (hq : q < l.length) (hl : l.length <= 1000000) : Fun Tryz.prog 98 (zrN o :: [U.row [zqH l q] 0].map .u) (· = .u (.bool (isB l q o.text))) := by
 have h1 := zeN l q o.text hq hl;simp only [List.map_cons, List.map_nil, zrN]
 (refine Fun.of_body Tryz.func98 rfl (by simp) fun Γ hn => ?_); simp only [entry, ziC, ziN, maC, maN, oA, Tryz.ntmps98]
 repeat' (first
  | ((first | refine zag ?_ | refine zaj ?_ | refine zah ?_ | fail); simp)
  | (refine zaq ?_; simp only [zap])
  | (refine CallP.fE (h1) (by first | rfl | fail) (by first | (simp; done) | (simp; rfl) | fail) ?_; (try simp))
  | fail)
 (refine EndOK.val (.inr rfl) ?_; simp [zaA, zae, zar, Tryz.results98])
theorem zif (l : List (Opr)) (f : FuncId) (caps : List U) (p : Opr -> Bool) (hf : ∀ n ∈ l, Fun Tryz.prog f (zrN n :: caps.map .u) (· = .u (.bool (p n)))) (hcl : zak Tryz.prog f = true)
  (hca : ∀ o, zc6 o (caps.map .u) = some (caps.map .u, [])) : Fun Tryz.prog 96 [.u (zmW l), .fnc (.func f) (caps.map .u)] (· = .u (.int .i64 (zhV p l 0))) := by
 (refine Fun.of_body Tryz.func96 rfl (by simp) fun Γ hn => ?_); simp only [entry, ziC, ziN, maC, maN, oA, Tryz.ntmps96]
 simp only [zmW];refine zji (x := 0) rfl fun hl => ?_;simp at hl
 repeat' (first
  | ((first | refine zag ?_ | refine zaj ?_ | refine zah ?_ | refine zat ?_ | fail); simp)
  | fail)
 refine zb8 (α := { i : Nat // i <= l.length /\ ∀ c ∈ l.take i, p c = false }) [0, 1, 7] (fun i => [(8, .u (.int .i64 i.1))]) (fun i => l.length - i.1) ⟨0, by omega, by simp⟩ ?_ ?_
 ·exact (Wk.env rfl rfl rfl (by simp [wkE, St.lp, zan, zaa, getK] <;> (try (intros; simp_all; done)) <;> (try (intros; omega)) <;> (try grind)))
 rintro ⟨i, hi, hb⟩;simp [St.lp, St.only, zan, zaa, getK];rcases hx : l[i]? with _ | n
 ·have hge : l.length <= i := by simpa using hx
  repeat' (first
  | ((first | refine zag ?_ | refine zaj ?_ | fail); simp [hx])
  | (refine ⟨by omega, ?_⟩)
  | (refine zah ?_; simp [hx])
  | (refine zaq ?_; simp only [zap])
  | (refine za9 ?_; simp [zap])
  | (intro hc <;> (try (exfalso; omega)))
  | fail)
  (refine EndOK.val (.inr rfl) ?_; simp [zaA, zae, zar, Tryz.results96])
  rw [List.take_of_length_le hge] at hb;exact (zf6 hb).symm
 ·have hlt : i < l.length := (lGE.1 hx).1;have h1 := hf n (List.mem_of_getElem? hx);simp only [zrN] at h1;cases hp : p n
  ·rw [hp] at h1
   repeat' (first
  | ((first | refine zag ?_ | refine zaj ?_ | fail); simp [hx, hca])
  | (refine ⟨by omega, ?_⟩)
  | ((first | refine zah ?_ | refine zai ?_ | refine zas ?_ | fail); simp [hx, hca])
  | (refine zao ?_; simp only [zap])
  | (refine ⟨?_, by omega⟩)
  | (intro hc <;> (try (exfalso; omega)))
  | (refine CallP.fE (h1) (by first | rfl | fail) (by first | simp [hx, hca] <;> rfl | fail) ?_; (try simp [hcl, hx, hca]))
  | fail)
   refine LoopW.next ⟨i + 1, by omega, zbv hx hb hp⟩ (by simp; omega) ?_
   exact (Wk.env rfl rfl rfl (by simp [wkE, St.lp, zan, zaa, getK] <;> (try (intros; simp_all; done)) <;> (try (intros; omega)) <;> (try grind)))
  ·rw [hp] at h1
   repeat' (first
  | ((first | refine zag ?_ | refine zaj ?_ | refine zah ?_ | refine zai ?_ | fail); simp [hx, hca])
  | ((first | refine zaq ?_ | refine zao ?_ | fail); simp only [zap])
  | (refine ⟨?_, by omega⟩)
  | (intro hc <;> (try (exfalso; omega)))
  | (refine CallP.fE (h1) (by first | rfl | fail) (by first | simp [hx, hca] <;> rfl | fail) ?_; (try simp [hcl, hx, hca]))
  | fail)
   (refine EndOK.val (.inr rfl) ?_; simp [zaA, zae, zar, Tryz.results96])
   rw [zi1 hb hx hp];omega
theorem zf7 {p : Opr -> Bool} : ∀ (L : List Opr) (k : Int), (L.find? p = none -> zhV p L k = -1) /\ ∀ x, L.find? p = some x -> ∃ j : Nat, L[j]? = some x /\ zhV p L k = k + j
 | [], k => ⟨fun _ => rfl, fun x h => by simp at h⟩
 | a :: L, k => by
  by_cases h : p a = true
  ·refine ⟨fun h1 => by simp [h] at h1, fun x h1 => ?_⟩;rw [List.find?_cons, h] at h1;cases h1;exact ⟨0, rfl, by rw [zhV, if_pos h]; simp⟩
  ·have h' : p a = false := by simpa using h
   obtain ⟨h1, h2⟩ := zf7 L (k + 1);refine ⟨fun h3 => ?_, fun x h3 => ?_⟩
   ·rw [List.find?_cons, h'] at h3;rw [zhV, if_neg h];exact h1 h3
   ·rw [List.find?_cons, h'] at h3;obtain ⟨j, h4, h5⟩ := h2 x h3;exact ⟨j + 1, h4, by rw [zhV, if_neg h, h5]; omega⟩
theorem znh (l : List Tok) (q : Nat) (hq : q < l.length) (hl : l.length <= 1000000) : Fun Tryz.prog 96 [.u (zmW oprs), .fnc (.func 98) [.u (.row [zqH l q] 0)]]
  (· = .u (.int .i64 (zhV (fun o => isB l q o.text) oprs 0))) :=
 zif oprs 98 [U.row [zqH l q] 0] (fun o => isB l q o.text) (fun o _ => zp9 l q o hq hl) rfl (fun o => rfl)
end Go.Proofs.YthnemhfamhnfjaaGreatDoor
namespace Go.Proofs.YthnemhfamhnfjaaGreatDoor
open Go Go.VL
attribute [local simp] HS zdS zcz evPure opd uOf zaN St.put St.at getK binD binI binS binB nilD aggD zjm zkZ lookD lookR zdv Go.VL.nextD zdz zlv zk0 zid zc5 mkV zep zbT zb7 mapEff zfk zhO Key.kk shiftI arith unD convD zfC loadD cellsAt fieldAddrD fieldD indexAddrD indexD sliceD cutD lenD minmaxD nilCheckD buildD fillD zcs zd9 zf2 setAll zdC zgj zdo zkH zde St.add za8 zct rowsOf ze5 zdq zal zac zaa zbK zd4 zbo entry zcb zck valD zcB zc6 zjf zen zeo zcw zch zaE zba zbX delAll effD St.effS zeq zbM zbs zer zbN zbu zc7 zbt zbg zc8 zeb zcu zc0 zb1 zcY zcZ zaL mkD zcp zce zcg zaE zdk D.ids Op.operands Call.operands zcq makeIfD makeFuncD typeAssertD zkY zeT zeU zkV zdx IntKind.bits zdG List.take_of_length_le List.range_succ
attribute [local irreducible] V G H HD HD2 HD4 znD RetX zap Eff CallP CallV EndOK Fun Ret FinOK LoopI LoopW EndW
abbrev zeO (e : Exp) : D := .u (.agg e.row)
abbrev zi0 (n : Int) : D := .u (.int .i64 n)
theorem zaw {i nx : Nat} (h : i < nx) : ¬ i = nx /\ ¬ nx = i /\ (∀ k, ¬ i = nx + k) /\ ∀ k, ¬ nx + k = i := ⟨by omega, by omega, fun k => by omega, fun k => by omega⟩
theorem zpy (l : List Tok) (p : Nat) (i nx : Nat) (hi : i < nx) (hp : p < l.length) (hl : TokOK l) :
  RetX Tryz.prog 143 [.ptr i 0] [(i, pOb l p)] nx (PPost l i nx zi0 (zhP l p)) := by
 have hne := zaw hi;have hh1 := fun nx' (h : nx <= nx') => zbj l p [99, 111, 105, 110, 115] i nx' (by omega) hp hl.len;have hh2 := fun nx' (h : nx <= nx') => zbj l p [100, 97, 121, 115] i nx' (by omega) hp hl.len;have hh3 := fun nx' (h : nx <= nx') => zbj l p [112, 101, 114] i nx' (by omega) hp hl.len;unfold zhP;by_cases h1 : isB l p [99, 111, 105, 110, 115] = true
 ·simp only [h1, if_true] at hh1 ⊢
  (refine RetX.of_bodyW Tryz.func143 rfl (by simp) fun Γ hn hpan => ?_); simp only [entry, ziC, ziN, maC, maN, oA, Tryz.ntmps143]
  repeat' (first
  | ((first | refine zag ?_ | refine zaj ?_ | refine zah ?_ | refine zai ?_ | fail); simp [hne])
  | (refine zaq ?_; simp only [zap])
  | (refine CallP.ok1 (hh1 _ (by first | omega | simp <;> omega | fail)) (by first | (simp [hne, zaa, getK, zab, zac]; done) | fail) (by rfl) (by rfl) ?_; (try simp [hne]))
  | fail)
  (refine EndW.here ?_; (first | (refine EndOK.fin (.inr rfl) ?_) | (refine EndOK.fin (.inl rfl) ?_)); simp [zaA, zae, Tryz.results143]; refine FinOK.here (by simp) ?_; try simp)
  exact PPost.zcy rfl rfl (by first | rfl | simp [del])
 ·simp only [h1, Bool.false_eq_true, if_false] at hh1 ⊢;by_cases h2 : isB l p [100, 97, 121, 115] = true
  ·simp only [h2, if_true] at hh2 ⊢
   (refine RetX.of_bodyW Tryz.func143 rfl (by simp) fun Γ hn hpan => ?_); simp only [entry, ziC, ziN, maC, maN, oA, Tryz.ntmps143]
   repeat' (first
  | ((first | refine zag ?_ | refine zaj ?_ | refine zah ?_ | refine zai ?_ | fail); simp [hne])
  | (refine zaq ?_; simp only [zap])
  | (refine CallP.ok1 (hh1 _ (by first | omega | simp <;> omega | fail)) (by first | (simp [hne, zaa, getK, zab, zac]; done) | fail) (by rfl) (by rfl) ?_; (try simp [hne]))
  | (refine CallP.ok1 (hh2 _ (by first | omega | simp <;> omega | fail)) (by first | (simp [hne, zaa, getK, zab, zac]; done) | fail) (by rfl) (by rfl) ?_; (try simp [hne]))
  | fail)
   (refine EndW.here ?_; (first | (refine EndOK.fin (.inr rfl) ?_) | (refine EndOK.fin (.inl rfl) ?_)); simp [zaA, zae, Tryz.results143]; refine FinOK.here (by simp) ?_; try simp)
   exact PPost.zcy rfl rfl (by first | rfl | simp [del])
  ·simp only [h2, Bool.false_eq_true, if_false] at hh2 ⊢;by_cases h3 : isB l p [112, 101, 114] = true
   ·simp only [h3, if_true] at hh3 ⊢;have hw := fun nx' (h : nx <= nx') => zis l (p + 1) [[109, 105, 108, 108, 101]] i nx' (by omega) (zaO hl h3) hl (by simp);cases hr : zbd l (p + 1) [[109, 105, 108, 108, 101]] with
    | ok a q =>
     simp only [hr, List.map_cons, List.map_nil] at hw
     (refine RetX.of_bodyW Tryz.func143 rfl (by simp) fun Γ hn hpan => ?_); simp only [entry, ziC, ziN, maC, maN, oA, Tryz.ntmps143]
     repeat' (first
  | ((first | refine zag ?_ | refine zaj ?_ | refine zah ?_ | refine zai ?_ | fail); simp [hne])
  | (refine zaq ?_; simp only [zap])
  | (refine CallP.ok1 (hh1 _ (by first | omega | simp <;> omega | fail)) (by first | (simp [hne, zaa, getK, zab, zac]; done) | fail) (by rfl) (by rfl) ?_; (try simp [hne]))
  | (refine CallP.ok1 (hh2 _ (by first | omega | simp <;> omega | fail)) (by first | (simp [hne, zaa, getK, zab, zac]; done) | fail) (by rfl) (by rfl) ?_; (try simp [hne]))
  | (refine CallP.ok1 (hh3 _ (by first | omega | simp <;> omega | fail)) (by first | (simp [hne, zaa, getK, zab, zac]; done) | fail) (by rfl) (by rfl) ?_; (try simp [hne]))
  | (refine CallP.ok1 (hw _ (by first | omega | simp <;> omega | fail)) (by first | (simp [hne, zaa, getK, zab, zac]; done) | fail) (by rfl) (by rfl) ?_; (try simp [hne]))
  | (refine zav (by first | rfl | fail) ?_; simp [hne, frzN, frz1, zaz, zay, St.frz, St.frzS, frzS, fv, zaH, za2, za4, zaG, zau, zam, del, frz, za5])
  | fail)
     (refine EndW.wk { n := _, env := [(2, zi0 4)], obs := [(i, pOb l q)], next := nx } (Wk.cut rfl (by simp [hn]) (by simp [wkO, zaa, getK, zab, zac, Ob.under, D.under, zad, zaf, hne, hi]) (by simp [wkU, zan, zaa, getK, D.under, hne, hi]) (by simp [wkE, zan, zaa, getK, hne, hi])) (EndW.here ?_); (first | (refine EndOK.fin (.inr rfl) ?_) | (refine EndOK.fin (.inl rfl) ?_)); simp [zaA, zae, Tryz.results143]; refine FinOK.here (by simp) ?_; try simp)
     exact PPost.zcy rfl rfl (by first | rfl | simp [del])
    | stop pos e =>
     simp only [hr, List.map_cons, List.map_nil] at hw
     (refine RetX.of_bodyW Tryz.func143 rfl (by simp) fun Γ hn hpan => ?_); simp only [entry, ziC, ziN, maC, maN, oA, Tryz.ntmps143]
     repeat' (first
  | ((first | refine zag ?_ | refine zaj ?_ | refine zah ?_ | refine zai ?_ | fail); simp [hne])
  | (refine CallP.ok1 (hh1 _ (by first | omega | simp <;> omega | fail)) (by first | (simp [hne, zaa, getK, zab, zac]; done) | fail) (by rfl) (by rfl) ?_; (try simp [hne]))
  | (refine CallP.ok1 (hh2 _ (by first | omega | simp <;> omega | fail)) (by first | (simp [hne, zaa, getK, zab, zac]; done) | fail) (by rfl) (by rfl) ?_; (try simp [hne]))
  | (refine CallP.ok1 (hh3 _ (by first | omega | simp <;> omega | fail)) (by first | (simp [hne, zaa, getK, zab, zac]; done) | fail) (by rfl) (by rfl) ?_; (try simp [hne]))
  | (refine CallP.zeW (hw _ (by first | omega | simp <;> omega | fail)) (by first | (simp [hne, zaa, getK, zab, zac]; done) | fail) (by rfl) (by first | assumption | (simp; done) | fail) (by rfl) (by simp) ?_; rintro ob' ⟨q', rfl⟩; refine ⟨_, Wk.refl _, ?_⟩)
  | (refine zav (by first | rfl | fail) ?_; simp [hne, frzN, frz1, zaz, zay, St.frz, St.frzS, frzS, fv, zaH, za2, za4, zaG, zau, zam, del, frz, za5])
  | fail)
     (refine hpan _ _ ⟨{ n := _, env := [], obs := [(i, pOb l q')], next := nx }, (Wk.cut rfl (by simp [hn]) (by simp [wkO, zaa, getK, zab, zac, Ob.under, D.under, zad, zaf, hi, zab, zac, zaa, getK]) (by simp [wkU, zan, zaa, getK, D.under, hi, zab, zac, zaa, getK]) (by simp [wkE, zan, zaa, getK, hi, zab, zac, zaa, getK])), by simp [hn], ?_⟩; try simp)
     exact PPost.zaF rfl
   ·simp only [h3, Bool.false_eq_true, if_false] at hh3 ⊢
    (refine RetX.of_bodyW Tryz.func143 rfl (by simp) fun Γ hn hpan => ?_); simp only [entry, ziC, ziN, maC, maN, oA, Tryz.ntmps143]
    repeat' (first
  | ((first | refine zag ?_ | refine zaj ?_ | refine zah ?_ | refine zai ?_ | fail); simp [hne])
  | ((first | refine zaq ?_ | refine zao ?_ | fail); simp only [zap])
  | (refine CallP.ok1 (hh1 _ (by first | omega | simp <;> omega | fail)) (by first | (simp [hne, zaa, getK, zab, zac]; done) | fail) (by rfl) (by rfl) ?_; (try simp [hne]))
  | (refine CallP.ok1 (hh2 _ (by first | omega | simp <;> omega | fail)) (by first | (simp [hne, zaa, getK, zab, zac]; done) | fail) (by rfl) (by rfl) ?_; (try simp [hne]))
  | (refine CallP.ok1 (hh3 _ (by first | omega | simp <;> omega | fail)) (by first | (simp [hne, zaa, getK, zab, zac]; done) | fail) (by rfl) (by rfl) ?_; (try simp [hne]))
  | fail)
    (refine EndW.here ?_; (first | (refine EndOK.fin (.inr rfl) ?_) | (refine EndOK.fin (.inl rfl) ?_)); simp [zaA, zae, Tryz.results143]; refine FinOK.here (by simp) ?_; try simp)
    exact PPost.zcy rfl rfl (by first | rfl | simp [del])
abbrev zj3 (e : Exp × Int) : D := .tup [.u (.agg e.1.row), .u (.int .i64 e.2)]
def zgV (l : List Tok) (f : Nat) : Prop := ∀ (p : Nat) (form : Int) (i nx : Nat), i < nx -> p < l.length -> 4 * (l.length - p) + 3 <= f -> 0 <= form -> form <= 7 ->
 RetX Tryz.prog 41 [.ptr i 0, zi0 form] [(i, pOb l p)] nx (PPost l i nx zeO (zdZ l f p form))
def zrD (l : List Tok) (f : Nat) : Prop := ∀ (p : Nat) (form : Int) (i nx : Nat), i < nx -> p < l.length -> 4 * (l.length - p) + 2 <= f -> 0 <= form -> form <= 7 ->
 RetX Tryz.prog 95 [.ptr i 0, zi0 form] [(i, pOb l p)] nx (PPost l i nx zj3 (zbl l f p form))
def zip (l : List Tok) (f : Nat) : Prop := ∀ (p : Nat) (i nx : Nat), i < nx -> p < l.length -> 4 * (l.length - p) + 1 <= f ->
 RetX Tryz.prog 133 [.ptr i 0] [(i, pOb l p)] nx (PPost l i nx zeO (zaZ l f p))
theorem zfK {l : List Tok} (hl : TokOK l) (w : List UInt8) {q i nx : Nat} (hi : i < nx) (hq : q < l.length) :
  RetX Tryz.prog 83 [.ptr i 0, .u (.sl [[.str w]])] [(i, pOb l q)] nx (PPost l i nx (fun _ => .tup []) (zbd l q [w])) := zis l q [w] i nx hi hq hl (by simp)
theorem zlf {l : List Tok} (hl : TokOK l) {f p : Nat} {t : Tok} (ht : l[p]? = some t) (hk : t.kind = 2) {i nx : Nat} (hi : i < nx) :
  RetX Tryz.prog 133 [.ptr i 0] [(i, pOb l p)] nx (PPost l i nx zeO (zaZ l (f + 1) p)) := by
 have hne := zaw hi;have hp := (lGE.1 ht).1;have hnx := zb9 l p t ht hl.len;have hp2 := hl.fin p t ht (by omega);have hll := hl.len;rw [zaZ, ht];simp only [hk, if_true] at hnx ⊢;have hu := fun nx' (h : nx <= nx') => zpy l (p + 1) i nx' (by omega) hp2 hl;cases hr : zhP l (p + 1) with
 | ok a q =>
  simp only [hr] at hu
  (refine RetX.of_bodyW Tryz.func133 rfl (by simp) fun Γ hn hpan => ?_); simp only [entry, ziC, ziN, maC, maN, oA, Tryz.ntmps133]
  repeat' (first
  | (refine zfi (fun nx' h' => hu nx' (by simp at h'; omega)) (by first | (simp [hne, zaa, getK, zab, zac, zal, zaL]; done) | fail) (by rfl) (by first | assumption | simp) (by rfl) (by simp [D.under, Ob.under]) (by simp) ?_; (try simp [hne]))
  | ((first | refine zag ?_ | refine zaS rfl ?_ | refine zbJ rfl ?_ | refine zaj ?_ | fail); simp [hne])
  | (refine ⟨by omega, ?_⟩)
  | ((first | refine zah ?_ | refine zai ?_ | fail); simp [hne])
  | (refine za0 (hC _ (zbP [i] nx (by simp <;> omega) (by simp <;> omega) (by apply Exists.intro; apply And.intro; (focus (repeat' (first | exact KF.nil | exact KL.nil | apply KF.cons | apply KL.cons 0 rfl | apply KL.cons 1 rfl | apply KL.cons 2 rfl | apply KL.cons 3 rfl | apply KL.cons 4 rfl | apply KL.cons 5 rfl | apply KL.cons 6 rfl | apply KL.cons 7 rfl | apply KL.cons 8 rfl | apply KL.cons 9 rfl))); kernel_rfl))) (hk _ ?_); clear hC hk C k; simp only [zap])
  | (refine za3 rfl (by kernel_rfl) (by first | (simp [hn]; done) | (simp [hn]; omega) | fail) fun C k hC hk => ?_; simp [hne])
  | (refine zaq ?_; simp only [zap])
  | (refine CallP.fE (hnx) (by first | rfl | fail) (by first | simp [hne] <;> rfl | fail) ?_; (try simp [hne]))
  | fail)
  refine EndW.norm ?_;simp [St.norm, zaD, zaT, zaV, zaW, hne]
  (refine EndW.here ?_; (first | (refine EndOK.fin (.inr rfl) ?_) | (refine EndOK.fin (.inl rfl) ?_)); simp [zaA, zae, Tryz.results133, hne, hi]; refine FinOK.cut [(i, pOb l q)] (nx) (by simp [zaa, getK, zab, zac, Ob.under, D.under, zad, zaf, hne, hi] <;> omega) (by simp [D.under]) (by simp [hn]) ?_; try simp)
  exact PPost.zcy rfl (by simp [Exp.row]) rfl
 | stop pos e =>
  simp only [hr] at hu
  (refine RetX.of_bodyW Tryz.func133 rfl (by simp) fun Γ hn hpan => ?_); simp only [entry, ziC, ziN, maC, maN, oA, Tryz.ntmps133]
  repeat' (first
  | (refine zgh (fun nx' h' => hu nx' (by simp at h'; omega)) (by first | (simp [hne, zaa, getK, zab, zac, zal, zaL]; done) | fail) (by rfl) (by first | assumption | simp) (by rfl) (by simp) ?_ ?_; rintro env' ob' n' hn' ⟨q', rfl⟩; refine ⟨_, Wk.refl _, ?_⟩)
  | (refine zfh rfl (by simp) ?_; simp)
  | ((first | refine zag ?_ | refine zaS rfl ?_ | refine zaj ?_ | fail); simp [hne])
  | (refine ⟨by omega, ?_⟩)
  | ((first | refine zah ?_ | refine zai ?_ | fail); simp [hne])
  | (refine zgi (hC _ (zbP [i] nx (by simp <;> omega) (by simp <;> omega) (by apply Exists.intro; apply And.intro; (focus (repeat' (first | exact KF.nil | exact KL.nil | apply KF.cons | apply KL.cons 0 rfl | apply KL.cons 1 rfl | apply KL.cons 2 rfl | apply KL.cons 3 rfl | apply KL.cons 4 rfl | apply KL.cons 5 rfl | apply KL.cons 6 rfl | apply KL.cons 7 rfl | apply KL.cons 8 rfl | apply KL.cons 9 rfl))); kernel_rfl))) rfl; done)
  | (refine za3 rfl (by kernel_rfl) (by first | (simp [hn]; done) | (simp [hn]; omega) | fail) fun C k hC hk => ?_; simp [hne])
  | (refine CallP.fE (hnx) (by first | rfl | fail) (by first | simp [hne] <;> rfl | fail) ?_; (try simp [hne]))
  | fail)
  (refine hpan _ _ ⟨{ n := _, env := [], obs := [(i, pOb l q')], next := nx }, (Wk.cut rfl (by simp [hn]) (by simp [wkO, zaa, getK, zab, zac, Ob.under, D.under, zad, zaf, hi, hne, zab, zac, zaa, getK]) (by simp [wkU, zan, zaa, getK, D.under, hi, hne, zab, zac, zaa, getK]) (by simp [wkE, zan, zaa, getK, hi, hne, zab, zac, zaa, getK])), by simp [hn], ?_⟩; try simp)
  exact PPost.zaF (by simp [PR.bind])
theorem zjP {l : List Tok} (hl : TokOK l) {f p : Nat} {t : Tok} (ht : l[p]? = some t) (hk : ¬ t.kind = 2) (h1 : isB l p [116, 114, 117, 101] = true) {i nx : Nat} (hi : i < nx) :
  RetX Tryz.prog 133 [.ptr i 0] [(i, pOb l p)] nx (PPost l i nx zeO (zaZ l (f + 1) p)) := by
 have hne := zaw hi;have hp := (lGE.1 ht).1;have hnx := zb9 l p t ht hl.len;have hll := hl.len;rw [zaZ, ht];have hh1 := fun nx' (h : nx <= nx') => zbj l p [116, 114, 117, 101] i nx' (by omega) hp hl.len;simp only [hk, h1, if_false, if_true] at hh1 ⊢
 (refine RetX.of_bodyW Tryz.func133 rfl (by simp) fun Γ hn hpan => ?_); simp only [entry, ziC, ziN, maC, maN, oA, Tryz.ntmps133]
 repeat' (first
  | ((first | refine zag ?_ | refine zaj ?_ | refine zah ?_ | refine zai ?_ | fail); simp [hne, hk, del])
  | (refine zaq ?_; simp only [zap])
  | (refine CallP.fE (hnx) (by first | rfl | fail) (by first | simp [hne, hk, del] <;> rfl | fail) ?_; (try simp [hne, hk, del]))
  | (refine CallP.ok1 (hh1 _ (by first | omega | simp <;> omega | fail)) (by first | (simp [hne, hk, del, zaa, getK, zab, zac]; done) | fail) (by rfl) (by rfl) ?_; (try simp [hne, hk, del]))
  | fail)
 refine EndW.norm ?_;simp [St.norm, zaD, zaT, zaV, zaW, hne]
 (refine EndW.here ?_; (first | (refine EndOK.fin (.inr rfl) ?_) | (refine EndOK.fin (.inl rfl) ?_)); simp [zaA, zae, Tryz.results133, hne, hi]; refine FinOK.cut [(i, pOb l (p + 1))] (nx) (by simp [zaa, getK, zab, zac, Ob.under, D.under, zad, zaf, hne, hi] <;> omega) (by simp [D.under]) (by simp [hn]) ?_; try simp)
 exact PPost.zcy rfl (by simp [Exp.row]) rfl
theorem ziH {l : List Tok} (hl : TokOK l) {f p : Nat} {t : Tok} (ht : l[p]? = some t) (hk : ¬ t.kind = 2) (h1 : isB l p [116, 114, 117, 101] = false) (h2 : isB l p [102, 97, 108, 115, 101] = true) {i nx : Nat} (hi : i < nx) :
  RetX Tryz.prog 133 [.ptr i 0] [(i, pOb l p)] nx (PPost l i nx zeO (zaZ l (f + 1) p)) := by
 have hne := zaw hi;have hp := (lGE.1 ht).1;have hnx := zb9 l p t ht hl.len;have hll := hl.len;rw [zaZ, ht];have hh1 := fun nx' (h : nx <= nx') => zbj l p [116, 114, 117, 101] i nx' (by omega) hp hl.len;have hh2 := fun nx' (h : nx <= nx') => zbj l p [102, 97, 108, 115, 101] i nx' (by omega) hp hl.len;simp only [hk, h1, h2, if_false, if_true, Bool.false_eq_true] at hh1 hh2 ⊢
 (refine RetX.of_bodyW Tryz.func133 rfl (by simp) fun Γ hn hpan => ?_); simp only [entry, ziC, ziN, maC, maN, oA, Tryz.ntmps133]
 repeat' (first
  | ((first | refine zag ?_ | refine zaj ?_ | refine zah ?_ | refine zai ?_ | fail); simp [hne, hk, del])
  | (refine zaq ?_; simp only [zap])
  | (refine CallP.fE (hnx) (by first | rfl | fail) (by first | simp [hne, hk, del] <;> rfl | fail) ?_; (try simp [hne, hk, del]))
  | (refine CallP.ok1 (hh1 _ (by first | omega | simp <;> omega | fail)) (by first | (simp [hne, hk, del, zaa, getK, zab, zac]; done) | fail) (by rfl) (by rfl) ?_; (try simp [hne, hk, del]))
  | (refine CallP.ok1 (hh2 _ (by first | omega | simp <;> omega | fail)) (by first | (simp [hne, hk, del, zaa, getK, zab, zac]; done) | fail) (by rfl) (by rfl) ?_; (try simp [hne, hk, del]))
  | fail)
 refine EndW.norm ?_;simp [St.norm, zaD, zaT, zaV, zaW, hne]
 (refine EndW.here ?_; (first | (refine EndOK.fin (.inr rfl) ?_) | (refine EndOK.fin (.inl rfl) ?_)); simp [zaA, zae, Tryz.results133, hne, hi]; refine FinOK.cut [(i, pOb l (p + 1))] (nx) (by simp [zaa, getK, zab, zac, Ob.under, D.under, zad, zaf, hne, hi] <;> omega) (by simp [D.under]) (by simp [hn]) ?_; try simp)
 exact PPost.zcy rfl (by simp [Exp.row]) rfl
theorem zdy {l : List Tok} {F : FuncId} {r : PR Exp} {e : Exp} {q i nx : Nat} {ds : List D} {obs : List (Nat × Ob)} (h : RetX Tryz.prog F ds obs nx (PPost l i nx zeO r)) (hr : r = .ok e q) :
  RetX Tryz.prog F ds obs nx fun r o n => r = .val (.u (.agg [.int .i64 e.op, .int .i64 e.n, .int .i64 e.unit, .str e.s, .sl (e.args.map Exp.row)])) /\ o = [(i, pOb l q)] /\ n = nx := by
 subst hr;rw [<- Exp.row_eq];exact h
theorem ziG {l : List Tok} (hl : TokOK l) {f p : Nat} (hE : zgV l f) (hf : 4 * (l.length - p) <= f) {t : Tok} (ht : l[p]? = some t) (hk : ¬ t.kind = 2) (h1 : isB l p [116, 114, 117, 101] = false) (h2 : isB l p [102, 97, 108, 115, 101] = false)
  (h3 : isB l p [109, 105, 110] = false) (h4 : isB l p [109, 97, 120] = false) (h5 : isB l p [40] = true) {i nx : Nat} (hi : i < nx) :
  RetX Tryz.prog 133 [.ptr i 0] [(i, pOb l p)] nx (PPost l i nx zeO (zaZ l (f + 1) p)) := by
 have hne := zaw hi;have hp := (lGE.1 ht).1;have hnx := zb9 l p t ht hl.len;have hll := hl.len;have hp2 := zaO hl h5;rw [zaZ, ht];have hh1 := fun nx' (h : nx <= nx') => zbj l p [116, 114, 117, 101] i nx' (by omega) hp hl.len;have hh2 := fun nx' (h : nx <= nx') => zbj l p [102, 97, 108, 115, 101] i nx' (by omega) hp hl.len;have hm1 := zeN l p [109, 105, 110] hp hl.len;have hm2 := zeN l p [109, 97, 120] hp hl.len;have hh3 := fun nx' (h : nx <= nx') => zbj l p [40] i nx' (by omega) hp hl.len;simp only [hk, h1, h2, h3, h4, h5, if_false, if_true, Bool.false_eq_true, or_self] at hh1 hh2 hm1 hm2 hh3 ⊢;have he := fun nx' (h : nx <= nx') => hE (p + 1) 0 i nx' (by omega) hp2 (by omega) (by omega) (by omega);cases hr : zdZ l f (p + 1) 0 with
 | stop pos e =>
  simp only [hr] at he
  (refine RetX.of_bodyW Tryz.func133 rfl (by simp) fun Γ hn hpan => ?_); simp only [entry, ziC, ziN, maC, maN, oA, Tryz.ntmps133]
  repeat' (first
  | ((first | refine zag ?_ | refine zaj ?_ | refine zah ?_ | refine zai ?_ | fail); simp [hne, hk, del, nAA])
  | (refine CallP.fE (hnx) (by first | rfl | fail) (by first | simp [hne, hk, del, nAA] <;> rfl | fail) ?_; (try simp [hne, hk, del, nAA]))
  | (refine CallP.fE (hm1) (by first | rfl | fail) (by first | simp [hne, hk, del, nAA] <;> rfl | fail) ?_; (try simp [hne, hk, del, nAA]))
  | (refine CallP.fE (hm2) (by first | rfl | fail) (by first | simp [hne, hk, del, nAA] <;> rfl | fail) ?_; (try simp [hne, hk, del, nAA]))
  | (refine CallP.ok1 (hh1 _ (by first | omega | simp <;> omega | fail)) (by first | (simp [hne, hk, del, nAA, zaa, getK, zab, zac]; done) | fail) (by rfl) (by rfl) ?_; (try simp [hne, hk, del, nAA]))
  | (refine CallP.ok1 (hh2 _ (by first | omega | simp <;> omega | fail)) (by first | (simp [hne, hk, del, nAA, zaa, getK, zab, zac]; done) | fail) (by rfl) (by rfl) ?_; (try simp [hne, hk, del, nAA]))
  | (refine CallP.ok1 (hh3 _ (by first | omega | simp <;> omega | fail)) (by first | (simp [hne, hk, del, nAA, zaa, getK, zab, zac]; done) | fail) (by rfl) (by rfl) ?_; (try simp [hne, hk, del, nAA]))
  | (refine CallP.zeW (he _ (by first | omega | simp <;> omega | fail)) (by first | (simp [hne, hk, del, nAA, zaa, getK, zab, zac]; done) | fail) (by rfl) (by first | assumption | (simp; done) | fail) (by rfl) (by simp) ?_; rintro ob' ⟨q', rfl⟩; refine ⟨_, Wk.refl _, ?_⟩)
  | fail)
  (refine hpan _ _ ⟨{ n := _, env := [], obs := [(i, pOb l q')], next := nx }, (Wk.cut rfl (by simp [hn]) (by simp [wkO, zaa, getK, zab, zac, Ob.under, D.under, zad, zaf, hi, hne, zab, zac, zaa, getK]) (by simp [wkU, zan, zaa, getK, D.under, hi, hne, zab, zac, zaa, getK]) (by simp [wkE, zan, zaa, getK, hi, hne, zab, zac, zaa, getK])), by simp [hn], ?_⟩; try simp)
  exact PPost.zaF (by simp [PR.bind, *])
 | ok e1 q1 =>
  have he := fun nx' h => zdy (he nx' h) hr;obtain ⟨g1, g2⟩ := (zbF hl f).1 _ _ _ _ hr hp2;have hw := fun nx' (h : nx <= nx') => zfK hl [41] (q := q1) (i := i) (nx := nx') (by omega) g2;cases hr2 : zbd l q1 [[41]] with
  | stop pos e =>
   simp only [hr2] at hw
   (refine RetX.of_bodyW Tryz.func133 rfl (by simp) fun Γ hn hpan => ?_); simp only [entry, ziC, ziN, maC, maN, oA, Tryz.ntmps133]
   repeat' (first
  | ((first | refine zag ?_ | refine zaj ?_ | refine zah ?_ | refine zai ?_ | fail); simp [hne, hk, del, nAA])
  | (refine CallP.fE (hnx) (by first | rfl | fail) (by first | simp [hne, hk, del, nAA] <;> rfl | fail) ?_; (try simp [hne, hk, del, nAA]))
  | (refine CallP.fE (hm1) (by first | rfl | fail) (by first | simp [hne, hk, del, nAA] <;> rfl | fail) ?_; (try simp [hne, hk, del, nAA]))
  | (refine CallP.fE (hm2) (by first | rfl | fail) (by first | simp [hne, hk, del, nAA] <;> rfl | fail) ?_; (try simp [hne, hk, del, nAA]))
  | (refine CallP.ok1 (hh1 _ (by first | omega | simp <;> omega | fail)) (by first | (simp [hne, hk, del, nAA, zaa, getK, zab, zac]; done) | fail) (by rfl) (by rfl) ?_; (try simp [hne, hk, del, nAA]))
  | (refine CallP.ok1 (hh2 _ (by first | omega | simp <;> omega | fail)) (by first | (simp [hne, hk, del, nAA, zaa, getK, zab, zac]; done) | fail) (by rfl) (by rfl) ?_; (try simp [hne, hk, del, nAA]))
  | (refine CallP.ok1 (hh3 _ (by first | omega | simp <;> omega | fail)) (by first | (simp [hne, hk, del, nAA, zaa, getK, zab, zac]; done) | fail) (by rfl) (by rfl) ?_; (try simp [hne, hk, del, nAA]))
  | (refine CallP.ok1 (he _ (by first | omega | simp <;> omega | fail)) (by first | (simp [hne, hk, del, nAA, zaa, getK, zab, zac]; done) | fail) (by rfl) (by rfl) ?_; (try simp [hne, hk, del, nAA]))
  | (refine CallP.zeW (hw _ (by first | omega | simp <;> omega | fail)) (by first | (simp [hne, hk, del, nAA, zaa, getK, zab, zac]; done) | fail) (by rfl) (by first | assumption | (simp; done) | fail) (by rfl) (by simp) ?_; rintro ob' ⟨q', rfl⟩; refine ⟨_, Wk.refl _, ?_⟩)
  | (refine zav (by first | rfl | fail) ?_; simp [hne, hk, del, nAA, frzN, frz1, zaz, zay, St.frz, St.frzS, frzS, fv, zaH, za2, za4, zaG, zau, zam, del, frz, za5])
  | fail)
   (refine hpan _ _ ⟨{ n := _, env := [], obs := [(i, pOb l q')], next := nx }, (Wk.cut rfl (by simp [hn]) (by simp [wkO, zaa, getK, zab, zac, Ob.under, D.under, zad, zaf, hi, hne, zab, zac, zaa, getK]) (by simp [wkU, zan, zaa, getK, D.under, hi, hne, zab, zac, zaa, getK]) (by simp [wkE, zan, zaa, getK, hi, hne, zab, zac, zaa, getK])), by simp [hn], ?_⟩; try simp)
   exact PPost.zaF (by simp [PR.bind, *])
  | ok u2 q =>
   simp only [hr2] at hw
   (refine RetX.of_bodyW Tryz.func133 rfl (by simp) fun Γ hn hpan => ?_); simp only [entry, ziC, ziN, maC, maN, oA, Tryz.ntmps133]
   repeat' (first
  | ((first | refine zag ?_ | refine zaj ?_ | refine zah ?_ | refine zai ?_ | fail); simp [hne, hk, del, nAA])
  | (refine zaq ?_; simp only [zap])
  | (refine CallP.fE (hnx) (by first | rfl | fail) (by first | simp [hne, hk, del, nAA] <;> rfl | fail) ?_; (try simp [hne, hk, del, nAA]))
  | (refine CallP.fE (hm1) (by first | rfl | fail) (by first | simp [hne, hk, del, nAA] <;> rfl | fail) ?_; (try simp [hne, hk, del, nAA]))
  | (refine CallP.fE (hm2) (by first | rfl | fail) (by first | simp [hne, hk, del, nAA] <;> rfl | fail) ?_; (try simp [hne, hk, del, nAA]))
  | (refine CallP.ok1 (hh1 _ (by first | omega | simp <;> omega | fail)) (by first | (simp [hne, hk, del, nAA, zaa, getK, zab, zac]; done) | fail) (by rfl) (by rfl) ?_; (try simp [hne, hk, del, nAA]))
  | (refine CallP.ok1 (hh2 _ (by first | omega | simp <;> omega | fail)) (by first | (simp [hne, hk, del, nAA, zaa, getK, zab, zac]; done) | fail) (by rfl) (by rfl) ?_; (try simp [hne, hk, del, nAA]))
  | (refine CallP.ok1 (hh3 _ (by first | omega | simp <;> omega | fail)) (by first | (simp [hne, hk, del, nAA, zaa, getK, zab, zac]; done) | fail) (by rfl) (by rfl) ?_; (try simp [hne, hk, del, nAA]))
  | (refine CallP.ok1 (he _ (by first | omega | simp <;> omega | fail)) (by first | (simp [hne, hk, del, nAA, zaa, getK, zab, zac]; done) | fail) (by rfl) (by rfl) ?_; (try simp [hne, hk, del, nAA]))
  | (refine CallP.ok1 (hw _ (by first | omega | simp <;> omega | fail)) (by first | (simp [hne, hk, del, nAA, zaa, getK, zab, zac]; done) | fail) (by rfl) (by rfl) ?_; (try simp [hne, hk, del, nAA]))
  | (refine zav (by first | rfl | fail) ?_; simp [hne, hk, del, nAA, frzN, frz1, zaz, zay, St.frz, St.frzS, frzS, fv, zaH, za2, za4, zaG, zau, zam, del, frz, za5])
  | fail)
   refine EndW.norm ?_;simp [St.norm, zaD, zaT, zaV, zaW, hne]
   (refine EndW.here ?_; (first | (refine EndOK.fin (.inr rfl) ?_) | (refine EndOK.fin (.inl rfl) ?_)); simp [zaA, zae, Tryz.results133, hne, hi]; refine FinOK.cut [(i, pOb l q)] (nx) (by simp [zaa, getK, zab, zac, Ob.under, D.under, zad, zaf, hne, hi] <;> omega) (by simp [D.under]) (by simp [hn]) ?_; try simp)
   exact PPost.zcy (by simp [PR.bind, *]; rfl) (by simp [Exp.row_eq]) rfl
end Go.Proofs.YthnemhfamhnfjaaGreatDoor
