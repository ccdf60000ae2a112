import Derived.Test.YthnemhfamhnfjaaGreatDoorW3
import Derived.Lib.ItoaNum
set_option linter.all false
set_option maxRecDepth 100000
set_option maxHeartbeats 8000000
namespace Go.Proofs.YthnemhfamhnfjaaGreatDoor
open Go Go.VL
attribute [local simp] zc2 zck evPure opd uOf zaH St.put St.at getK binD binI binS binB nilD aggD zhr zh0 lookD lookR zcz Go.VL.nextD zcC ziz zia zgs zcu mkV zdn zbo zby mapEff zeb zgf Key.kk shiftI arith unD convD zdO loadD cellsAt fieldAddrD fieldD indexAddrD indexD sliceD cutD lenD minmaxD nilCheckD buildD fillD zbR zdd zeM setAll zcK zeS zcq zhB zcn St.add zaQ zbI rowsOf zdJ zcD zak zac zaa zbn zdb zba entry zbK zbT valD zb3 zcx zhn zdl zdm zbU zbM zav zaX zbr delAll effD St.effS zc8 zbg za5 zda zbh za7 zcc za6 zaW zcd zcX zbD zb7 zbp zb5 zb6 zaJ mkD zbV zbB zbL zav zco D.ids Op.operands Call.operands zbG makeIfD makeFuncD typeAssertD zhZ zdx zdy zhD zcA IntKind.bits zcL List.take_of_length_le List.range_succ
attribute [local irreducible] V G H HD HD2 zao Eff CallP CallV EndOK Fun Ret FinOK LoopI LoopW EndW
def inB (lo hi : Int) (l : List Int) : Bool := !l.any fun n => decide (n < lo) || decide (hi < n)
theorem zqs (lo hi n : Int) : Fun Tryz.prog 119 (zre n :: [U.row [.int .i64 lo] 0, U.row [.int .i64 hi] 0].map .u) (· = .u (.bool (decide (n < lo) || decide (hi < n)))) := by
 simp only [zre, List.map_cons, List.map_nil]
 (refine Fun.of_body Tryz.func119 rfl (by simp) fun Γ hn => ?_); simp only [entry, ziC, ziN, maC, maN, oA, Tryz.ntmps119]
 repeat' (first
  | ((first | refine zae ?_ | refine zaj ?_ | refine zah ?_ | fail); simp)
  | (refine zaq ?_; simp only [zao])
  | (refine ⟨fun hc => ?_, fun hc => ?_⟩ <;> (try (exfalso; omega)))
  | fail)
 all_goals
  (refine EndOK.val (.inr rfl) ?_; simp [zaG, zaf, zar, Tryz.results119])
 all_goals grind
theorem zjX (lo hi : Int) (l : List Int) : Fun Tryz.prog 66 [.u (.int .i64 lo), .u (.int .i64 hi), .u (zqr l)] (· = .u (.bool (inB lo hi l))) := by
 have h1 := ziP l 119 [U.row [.int .i64 lo] 0, U.row [.int .i64 hi] 0] _ (fun n _ => zqs lo hi n) (by simp) (fun _ => rfl) (fun _ => rfl);simp only [List.map_cons, List.map_nil] at h1;unfold inB
 (refine Fun.of_body Tryz.func66 rfl (by simp) fun Γ hn => ?_); simp only [entry, ziC, ziN, maC, maN, oA, Tryz.ntmps66]
 simp only [zqr] at h1 ⊢
 repeat' (first
  | ((first | refine zae ?_ | refine zaj ?_ | refine zah ?_ | fail); simp)
  | (refine zaq ?_; simp only [zao])
  | (refine CallP.fE (h1) (by first | rfl | fail) (by first | (simp; done) | (simp; rfl) | fail) ?_; (try simp))
  | fail)
 (refine EndOK.val (.inr rfl) ?_; simp [zaG, zaf, zar, Tryz.results66])
theorem zl4 (x l : Let) : Fun Tryz.prog 68 (zn3 x :: [U.row (zlr l) 0].map .u) (· = .u (.bool (decide (x.name = l.name)))) := by
 simp only [zn3, zlr, List.map_cons, List.map_nil]
 (refine Fun.of_body Tryz.func68 rfl (by simp) fun Γ hn => ?_); simp only [entry, ziC, ziN, maC, maN, oA, Tryz.ntmps68]
 repeat' (first
  | ((first | refine zae ?_ | refine zaj ?_ | refine zah ?_ | fail); simp)
  | (refine zaq ?_; simp only [zao])
  | fail)
 (refine EndOK.val (.inr rfl) ?_; simp [zaG, zaf, zar, Tryz.results68])
structure By where
 kind : Int
 period : Int
 grace : Int
 wait : Int
 last : Int
 order : Int
 sld : Bool
 backs : Int
 voices : Int
 jury : Int
 fund : Int
 lets : List Let
 due : Exp
 fine : Exp
 pay : Exp
 cover : Exp
 hold : Exp
 deriving Inhabited
def za1 (b : By) : List U := [.int .i64 b.kind, .int .i64 b.period, .int .i64 b.grace, .int .i64 b.wait, .int .i64 b.last, .int .i64 b.order, .bool b.sld, .int .i64 b.backs, .int .i64 b.voices, .int .i64 b.jury, .int .i64 b.fund,
 .sl (b.lets.map fun l => [.str l.name, .int .i64 l.body.op, .int .i64 l.body.n, .int .i64 l.body.unit, .str l.body.s, .sl (l.body.args.map Exp.row)]),
 .int .i64 b.due.op, .int .i64 b.due.n, .int .i64 b.due.unit, .str b.due.s, .sl (b.due.args.map Exp.row),
 .int .i64 b.fine.op, .int .i64 b.fine.n, .int .i64 b.fine.unit, .str b.fine.s, .sl (b.fine.args.map Exp.row),
 .int .i64 b.pay.op, .int .i64 b.pay.n, .int .i64 b.pay.unit, .str b.pay.s, .sl (b.pay.args.map Exp.row),
 .int .i64 b.cover.op, .int .i64 b.cover.n, .int .i64 b.cover.unit, .str b.cover.s, .sl (b.cover.args.map Exp.row),
 .int .i64 b.hold.op, .int .i64 b.hold.n, .int .i64 b.hold.unit, .str b.hold.s, .sl (b.hold.args.map Exp.row)]
def zfP (b : By) : Bool := inB 0 2 [b.kind] && inB 0 2 [b.order] && inB 1 1000 [b.period, b.last] && inB 0 1000 [b.grace, b.wait, b.voices, b.fund] && inB 0 60 [b.backs, b.jury]
def zfe (seen : List Let) : List Let -> Bool
 | [] => true
 | l :: r => zbO l.name && zaC 12 l.body && !seen.any (fun x => decide (x.name = l.name)) && zfe (seen ++ [l]) r
theorem zpa {L : List Let} {i : Nat} {l : Let} (h : L[i]? = some l) : zfe (L.take i) (L.drop i) = (zbO l.name && zaC 12 l.body && !(L.take i).any (fun x => decide (x.name = l.name)) && zfe (L.take (i + 1)) (L.drop (i + 1))) := by
 obtain ⟨hi, rfl⟩ := lGE.1 h;rw [List.drop_eq_getElem_cons hi, zfe, List.take_succ_eq_append_getElem hi]
def zfR (b : By) : Bool := zaC 12 b.due && zaC 12 b.fine && zaC 12 b.pay && zaC 12 b.cover && zaC 12 b.hold
def za3 (b : By) : Bool := zfP b && !(b.sld && decide (b.kind ≠ 1)) && decide (b.lets.length <= 20) && zfe [] b.lets && zfR b
set_option maxRecDepth 100000 in
set_option maxHeartbeats 4000000 in
theorem zd1 (b : By) : Fun Tryz.prog 23 [.u (.agg (za1 b))] (· = .u (.bool (za3 b))) := by
 have i1 := zjX 0 2 [b.kind];have i2 := zjX 0 2 [b.order];have i3 := zjX 1 1000 [b.period, b.last];have i4 := zjX 0 1000 [b.grace, b.wait, b.voices, b.fund];have i5 := zjX 0 60 [b.backs, b.jury];simp only [zqr, List.map_cons, List.map_nil] at i1 i2 i3 i4 i5;have hr : ∀ e : Exp, Fun Tryz.prog 25 [.u (.agg [.int .i64 e.op, .int .i64 e.n, .int .i64 e.unit, .str e.s, .sl (e.args.map Exp.row)])] (· = .u (.bool (zaC 12 e))) := fun e => zdB e;have e1 := hr b.due;have e2 := hr b.fine;have e3 := hr b.pay;have e4 := hr b.cover;have e5 := hr b.hold;unfold za3 zfP zfR;generalize inB 0 2 [b.kind] = c1 at i1 ⊢;generalize inB 0 2 [b.order] = c2 at i2 ⊢;generalize inB 1 1000 [b.period, b.last] = c3 at i3 ⊢;generalize inB 0 1000 [b.grace, b.wait, b.voices, b.fund] = c4 at i4 ⊢;generalize inB 0 60 [b.backs, b.jury] = c5 at i5 ⊢
 (refine Fun.of_body Tryz.func23 rfl (by simp) fun Γ hn => ?_); simp only [entry, ziC, ziN, maC, maN, oA, Tryz.ntmps23]
 simp only [za1]
 repeat' (first
  | ((first | refine zae ?_ | refine zaj ?_ | refine zah ?_ | refine zai ?_ | refine zaw ?_ | fail); simp)
  | ((first | refine zaq ?_ | refine zap ?_ | fail); simp only [zao])
  | (refine ⟨fun hc => ?_, fun hc => ?_⟩ <;> (try (exfalso; omega)))
  | (refine CallP.fE (i1) (by first | rfl | fail) (by first | (simp; done) | (simp; rfl) | fail) ?_; (try simp))
  | (refine CallP.fE (i2) (by first | rfl | fail) (by first | (simp; done) | (simp; rfl) | fail) ?_; (try simp))
  | (refine CallP.fE (i3) (by first | rfl | fail) (by first | (simp; done) | (simp; rfl) | fail) ?_; (try simp))
  | (refine CallP.fE (i4) (by first | rfl | fail) (by first | (simp; done) | (simp; rfl) | fail) ?_; (try simp))
  | (refine CallP.fE (i5) (by first | rfl | fail) (by first | (simp; done) | (simp; rfl) | fail) ?_; (try simp))
  | fail)
 all_goals try ((refine EndOK.val (.inr rfl) ?_; simp [zaG, zaf, zar, Tryz.results23]); clear i1 i2 i3 i4 i5 hr e1 e2 e3 e4 e5; grind)
 all_goals
  refine zcl (α := { i : Nat // i <= b.lets.length /\ zfe [] b.lets = zfe (b.lets.take i) (b.lets.drop i) }) [1, 62, 63] (fun i => [(64, .u (.int .i64 i.1))]) (fun i => b.lets.length - i.1) ⟨0, by omega, by simp⟩ ?_ ?_
  ·exact (Wk.cut rfl (by simp [hn, St.lp]) (by simp [wkO, St.lp, zaa, getK, Ob.under, D.under, zad, zag]) (by simp [wkU, St.lp, zan, zaa, getK, D.under]) (by simp [wkE, St.lp, zan, zaa, getK] <;> (try (intros; simp_all; done)) <;> (try (intros; omega)) <;> (try grind)))
  rintro ⟨i, hi, hb⟩;simp [St.lp, St.only, zan, zaa, getK];rcases hx : b.lets[i]? with _ | l
  ·have hge : b.lets.length <= i := by simpa using hx
   have hb' : zfe [] b.lets = true := by rw [hb, List.drop_of_length_le hge]; rfl
   generalize zaC 12 b.due = x1 at e1 ⊢;generalize zaC 12 b.fine = x2 at e2 ⊢;generalize zaC 12 b.pay = x3 at e3 ⊢;generalize zaC 12 b.cover = x4 at e4 ⊢;generalize zaC 12 b.hold = x5 at e5 ⊢
   repeat' (first
  | ((first | refine zae ?_ | refine zaj ?_ | fail); simp [hx])
  | (refine ⟨by omega, ?_⟩)
  | (refine zah ?_; simp [hx])
  | (refine zaq ?_; simp only [zao])
  | (refine zbA ?_; simp [zao])
  | (refine ⟨fun hc => ?_, fun hc => ?_⟩ <;> (try (exfalso; omega)))
  | (intro hc <;> (try (exfalso; omega)))
  | (refine CallP.fE (e1) (by first | rfl | fail) (by first | simp [hx] <;> rfl | fail) ?_; (try simp [hx]))
  | (refine CallP.fE (e2) (by first | rfl | fail) (by first | simp [hx] <;> rfl | fail) ?_; (try simp [hx]))
  | (refine CallP.fE (e3) (by first | rfl | fail) (by first | simp [hx] <;> rfl | fail) ?_; (try simp [hx]))
  | (refine CallP.fE (e4) (by first | rfl | fail) (by first | simp [hx] <;> rfl | fail) ?_; (try simp [hx]))
  | (refine CallP.fE (e5) (by first | rfl | fail) (by first | simp [hx] <;> rfl | fail) ?_; (try simp [hx]))
  | fail)
   all_goals
    (refine EndOK.val (.inr rfl) ?_; simp [zaG, zaf, zar, Tryz.results23])
   all_goals
    clear i1 i2 i3 i4 i5 hr e1 e2 e3 e4 e5
    grind
  ·have hlt : i < b.lets.length := (lGE.1 hx).1;have hnx := zpa hx;have e6 := zeB l.name;have e7 := hr l.body;have e8 := zfq (b.lets.take i) 68 [U.row (zlr l) 0] _ (fun x _ => zl4 x l) (by simp) (fun _ => rfl) (fun _ => rfl);simp only [zfd, zlr, List.map_cons, List.map_nil] at e8;generalize zbO l.name = y1 at e6 hnx;generalize zaC 12 l.body = y2 at e7 hnx;generalize ((b.lets.take i).any fun x => decide (x.name = l.name)) = y3 at e8 hnx
   repeat' (first
  | ((first | refine zae ?_ | refine zaj ?_ | fail); simp [hx])
  | (refine ⟨by omega, ?_⟩)
  | ((first | refine zah ?_ | refine zai ?_ | refine zax ?_ | fail); simp [hx])
  | ((first | refine zaq ?_ | refine zap ?_ | fail); simp only [zao])
  | (refine ⟨?_, by omega⟩)
  | (refine ⟨fun hc => ?_, fun hc => ?_⟩ <;> (try (exfalso; omega)))
  | (intro hc <;> (try (exfalso; omega)))
  | (refine CallP.fE (e6) (by first | rfl | fail) (by first | simp [hx] <;> rfl | fail) ?_; (try simp [hx]))
  | (refine CallP.fE (e7) (by first | rfl | fail) (by first | simp [hx] <;> rfl | fail) ?_; (try simp [hx]))
  | (refine CallP.fE (e8) (by first | rfl | fail) (by first | simp [hx] <;> rfl | fail) ?_; (try simp [hx]))
  | fail)
   all_goals first
    | (refine LoopW.next ⟨i + 1, by omega, by simp_all⟩ (by simp; omega) ?_; exact (Wk.cut rfl (by simp [hn, St.lp]) (by simp [wkO, St.lp, zaa, getK, Ob.under, D.under, zad, zag]) (by simp [wkU, St.lp, zan, zaa, getK, D.under]) (by simp [wkE, St.lp, zan, zaa, getK] <;> (try (intros; simp_all; done)) <;> (try (intros; omega)) <;> (try grind))))
    | ((refine EndOK.val (.inr rfl) ?_; simp [zaG, zaf, zar, Tryz.results23]); clear i1 i2 i3 i4 i5 hr e1 e2 e3 e4 e5 e6 e7 e8; grind)
theorem zor (c : UInt8) : Fun Tryz.prog 76 [.u (.int .u8 c.toNat)] (· = .u (.bool (za0 c))) := by
 unfold za0
 (refine Fun.of_body Tryz.func76 rfl (by simp) fun Γ hn => ?_); simp only [entry, ziC, ziN, maC, maN, oA, Tryz.ntmps76]
 repeat' (first
  | ((first | refine zae ?_ | refine zaj ?_ | refine zah ?_ | fail); simp)
  | (refine zaq ?_; simp only [zao])
  | (refine ⟨fun hc => ?_, fun hc => ?_⟩ <;> (try (exfalso; omega)))
  | fail)
 all_goals
  (refine EndOK.val (.inr rfl) ?_; simp [zaG, zaf, zar, Tryz.results76])
 all_goals first | omega | (rw [Bool.eq_iff_iff]; simp; omega) | (simp; omega)
theorem znD (c : UInt8) : Fun Tryz.prog 124 [.u (.int .u8 c.toNat)] (· = .u (.bool (zca c))) := by
 unfold zca
 (refine Fun.of_body Tryz.func124 rfl (by simp) fun Γ hn => ?_); simp only [entry, ziC, ziN, maC, maN, oA, Tryz.ntmps124]
 repeat' (first
  | ((first | refine zae ?_ | refine zaj ?_ | refine zah ?_ | fail); simp)
  | (refine zaq ?_; simp only [zao])
  | (refine ⟨fun hc => ?_, fun hc => ?_⟩ <;> (try (exfalso; omega)))
  | (refine CallP.fE (zdS c) (by first | rfl | fail) (by first | (simp; done) | (simp; rfl) | fail) ?_; (try simp))
  | (refine CallP.fE (zey c) (by first | rfl | fail) (by first | (simp; done) | (simp; rfl) | fail) ?_; (try simp))
  | fail)
 all_goals
  (refine EndOK.val (.inr rfl) ?_; simp [zaG, zaf, zar, Tryz.results124])
 all_goals simp_all
theorem zdA (p : UInt8 -> Bool) (l : List UInt8) : zbE p l <= l.length := by
 unfold zbE;exact (List.takeWhile_sublist p).length_le
theorem znb {p : UInt8 -> Bool} {l : List UInt8} (h : zbE p l = l.length) : ∀ c ∈ l, p c = true := by
 have : l.takeWhile p = l := (List.takeWhile_sublist p).eq_of_length h;intro c hc;rw [<- this] at hc;exact List.all_eq_true.1 (List.all_takeWhile (l := l) (p := p)) c hc
theorem zmg (s : List UInt8) (hl : s.length <= 1000000) : Fun Tryz.prog 125 [.u (.str s)] (· = .tup [.u (.int .i64 ((zem s).getD 0)), .u (.bool (zem s).isSome)]) := by
 have hsp := ze8 s hl 104 zaM (fun c _ => zey c) (by simp);unfold zem;cases s with
 | nil =>
  (refine Fun.of_body Tryz.func125 rfl (by simp) fun Γ hn => ?_); simp only [entry, ziC, ziN, maC, maN, oA, Tryz.ntmps125]
  repeat' (first
  | ((first | refine zae ?_ | refine zaj ?_ | refine zah ?_ | refine zai ?_ | fail); simp)
  | (refine zaq ?_; simp only [zao])
  | fail)
  all_goals
   (refine EndOK.val (.inr rfl) ?_; simp [zaG, zaf, zar, Tryz.results125])
 | cons c s =>
  by_cases h1 : zbE zaM (c :: s) = (c :: s).length
  case neg =>
   rw [if_pos (.inr (.inl h1))];have h1' : ¬ (zbE zaM (c :: s) : Int) = s.length + 1 := by simp at h1; omega
   (refine Fun.of_body Tryz.func125 rfl (by simp) fun Γ hn => ?_); simp only [entry, ziC, ziN, maC, maN, oA, Tryz.ntmps125]
   repeat' (first
  | ((first | refine zae ?_ | refine zaj ?_ | refine zah ?_ | refine zai ?_ | fail); simp [h1'])
  | (refine zaq ?_; simp only [zao])
  | (refine CallP.fE (hsp) (by first | rfl | fail) (by first | simp [h1'] <;> rfl | fail) ?_; (try simp [h1']))
  | fail)
   all_goals
    (refine EndOK.val (.inr rfl) ?_; simp [zaG, zaf, zar, Tryz.results125])
  have h1' : (zbE zaM (c :: s) : Int) = s.length + 1 := by simp at h1; omega
  by_cases h2 : c.toNat = 48 /\ s ≠ []
  ·rw [if_pos (.inr (.inr (.inl ⟨by have := h2.1; simp; exact UInt8.toNat_inj.1 this, by simp; intro _; exact h2.2⟩)))];have h2b := h2.1;have h2a := h2.2
   (refine Fun.of_body Tryz.func125 rfl (by simp) fun Γ hn => ?_); simp only [entry, ziC, ziN, maC, maN, oA, Tryz.ntmps125]
   repeat' (first
  | ((first | refine zae ?_ | refine zaj ?_ | refine zah ?_ | refine zai ?_ | fail); simp [h1', h2a, h2b])
  | (refine zaq ?_; simp only [zao])
  | (refine CallP.fE (hsp) (by first | rfl | fail) (by first | simp [h1', h2a, h2b] <;> rfl | fail) ?_; (try simp [h1', h2a, h2b]))
  | fail)
   all_goals
    (refine EndOK.val (.inr rfl) ?_; simp [zaG, zaf, zar, Tryz.results125])
  have h2' : c.toNat = 48 -> s = [] := fun h => by
   by_cases hs : s = []
   ·exact hs
   ·exact absurd ⟨h, hs⟩ h2
  by_cases h3 : 13 < (c :: s).length
  ·rw [if_pos (.inr (.inr (.inr h3)))];have h3' : 13 < (s.length : Int) + 1 := by simp at h3; omega
   have hne : s ≠ [] := fun e => by rw [e] at h3; simp at h3
   have h2'' : ¬ c.toNat = 48 := fun h => hne (h2' h)
   (refine Fun.of_body Tryz.func125 rfl (by simp) fun Γ hn => ?_); simp only [entry, ziC, ziN, maC, maN, oA, Tryz.ntmps125]
   repeat' (first
  | ((first | refine zae ?_ | refine zaj ?_ | fail); simp [h1', h2'', h3'])
  | (refine ⟨by omega, ?_⟩)
  | ((first | refine zah ?_ | refine zai ?_ | fail); simp [h1', h2'', h3'])
  | (refine zaq ?_; simp only [zao])
  | (intro hc <;> (try (exfalso; omega)))
  | (refine CallP.fE (hsp) (by first | rfl | fail) (by first | simp [h1', h2'', h3'] <;> rfl | fail) ?_; (try simp [h1', h2'', h3']))
  | fail)
   all_goals
    (refine EndOK.val (.inr rfl) ?_; simp [zaG, zaf, zar, Tryz.results125])
  have hall := znb h1;rw [if_neg (by
   simp only [not_or];refine ⟨by simp, fun h => h h1, fun h => ?_, h3⟩;have hc48 : c = 48 := by have := h.1; simpa using this
   have := h2' (by rw [hc48]; rfl);rw [this, hc48] at h;exact h.2 rfl)]
  have h3' : ¬ 13 < (s.length : Int) + 1 := by simp at h3; omega
  have hval : ∀ k, k <= (c :: s).length -> 0 <= zbc ((c :: s).take k) /\ zbc ((c :: s).take k) < 10 ^ 13 := fun k hk => by
   have h4 := zfo k ((c :: s).take k) (by simp; simp at hk; omega) (fun x hx => hall x (List.mem_of_mem_take hx));have : (10 : Int) ^ k <= 10 ^ 13 := by
    have := Nat.pow_le_pow_right (n := 10) (by omega) (show k <= 13 by simp at h3 hk; omega)
    exact_mod_cast this
   omega
  have hloop : ∀ (hw : c.toNat = 48 -> s = []), Fun Tryz.prog 125 [.u (.str (c :: s))] (· = .tup [.u (.int .i64 ((if 1099511627776 < zbc (c :: s) then none else some (zbc (c :: s)) : Option Int).getD 0)), .u (.bool (if 1099511627776 < zbc (c :: s) then none else some (zbc (c :: s)) : Option Int).isSome)]) := fun hw => by
   by_cases h48 : c.toNat = 48
   ·have h48' : (c.toNat : Int) = 48 := by omega
    have hc48 : (c = 48) = True := eq_true (UInt8.toNat_inj.1 h48);have hs0 : (s = []) = True := eq_true (hw h48)
    (refine Fun.of_body Tryz.func125 rfl (by simp) fun Γ hn => ?_); simp only [entry, ziC, ziN, maC, maN, oA, Tryz.ntmps125]
    repeat' (first
  | ((first | refine zae ?_ | refine zaj ?_ | refine zah ?_ | refine zai ?_ | refine zaw ?_ | fail); simp [h1', h3', h48', hc48, hs0])
  | (refine zap ?_; simp only [zao])
  | (refine CallP.fE (hsp) (by first | rfl | fail) (by first | simp [h1', h3', h48', hc48, hs0] <;> rfl | fail) ?_; (try simp [h1', h3', h48', hc48, hs0]))
  | fail)
    refine zcl (α := { i : Nat // i <= (c :: s).length }) [0, 30] (fun i => [(4, .u (.int .i64 (zbc ((c :: s).take i.1)))), (31, .u (.int .i64 i.1))]) (fun i => (c :: s).length - i.1) ⟨0, by omega⟩ ?_ ?_
    ·exact (Wk.cut rfl (by simp [hn, St.lp]) (by simp [wkO, St.lp, zaa, getK, Ob.under, D.under, zad, zag, zbc]) (by simp [wkU, St.lp, zan, zaa, getK, D.under, zbc]) (by simp [wkE, St.lp, zan, zaa, getK, zbc] <;> (try (intros; simp_all; done)) <;> (try (intros; omega)) <;> (try grind)))
    rintro ⟨i, hi⟩;simp [St.lp, St.only, zan, zaa, getK];rcases hx : (c :: s)[i]? with _ | a
    ·have hge : (c :: s).length <= i := by simpa using hx
     obtain rfl : i = (c :: s).length := by omega
     rw [List.take_length];have hge2 : ¬ ((c :: s).length : Int) < s.length + 1 := by simp
     by_cases hb : 1099511627776 < zbc (c :: s)
     ·repeat' (first
  | ((first | refine zae ?_ | refine zaj ?_ | refine zah ?_ | refine zai ?_ | fail); simp [hb, hge2])
  | (refine zaq ?_; simp only [zao])
  | (refine zbA ?_; simp [zao])
  | fail)
      (refine EndOK.val (.inr rfl) ?_; simp [zaG, zaf, zar, Tryz.results125])
      try simp [hb]
     ·repeat' (first
  | ((first | refine zae ?_ | refine zaj ?_ | refine zah ?_ | refine zai ?_ | fail); simp [hb, hge2])
  | ((first | refine zaq ?_ | refine zap ?_ | fail); simp only [zao])
  | (refine zbA ?_; simp [zao])
  | fail)
      (refine EndOK.val (.inr rfl) ?_; simp [zaG, zaf, zar, Tryz.results125])
      try simp [hb]
    ·have hlt : i < (c :: s).length := (lGE.1 hx).1;have hlt2 : (i : Int) < s.length + 1 := by simp at hlt; omega
     have hd := hall a (List.mem_of_getElem? hx);simp only [zaM, Bool.and_eq_true, decide_eq_true_eq] at hd;have hv := hval i hi;have hv2 := hval (i + 1) hlt;have hsn : zbc ((c :: s).take (i + 1)) = 10 * zbc ((c :: s).take i) + ((a.toNat : Int) - 48) := by
      rw [List.take_succ, hx]; exact zdE _ _
     generalize zbc ((c :: s).take i) = dv at hv hsn;have hsn2 := hsn.symm
     repeat' (first
  | ((first | refine zae ?_ | refine zaj ?_ | fail); simp [hx, hlt2, hsn2])
  | (refine ⟨by omega, ?_⟩)
  | ((first | refine zah ?_ | refine zax ?_ | fail); simp [hx, hlt2, hsn2])
  | (refine zap ?_; simp only [zao])
  | fail)
     refine LoopW.next ⟨i + 1, hlt⟩ (by simp at hlt; simp; omega) ?_
     exact (Wk.cut rfl (by simp [hn, St.lp]) (by simp [wkO, St.lp, zaa, getK, Ob.under, D.under, zad, zag, hsn]) (by simp [wkU, St.lp, zan, zaa, getK, D.under, hsn]) (by simp [wkE, St.lp, zan, zaa, getK, hsn] <;> (try (intros; simp_all; done)) <;> (try (intros; omega)) <;> (try grind)))
   ·(refine Fun.of_body Tryz.func125 rfl (by simp) fun Γ hn => ?_); simp only [entry, ziC, ziN, maC, maN, oA, Tryz.ntmps125]
    repeat' (first
  | ((first | refine zae ?_ | refine zaj ?_ | fail); simp [h1', h3', h48])
  | (refine ⟨by omega, ?_⟩)
  | ((first | refine zah ?_ | refine zai ?_ | refine zaw ?_ | fail); simp [h1', h3', h48])
  | (refine zap ?_; simp only [zao])
  | (intro hc <;> (try (exfalso; omega)))
  | (refine CallP.fE (hsp) (by first | rfl | fail) (by first | simp [h1', h3', h48] <;> rfl | fail) ?_; (try simp [h1', h3', h48]))
  | fail)
    refine zcl (α := { i : Nat // i <= (c :: s).length }) [0, 30] (fun i => [(4, .u (.int .i64 (zbc ((c :: s).take i.1)))), (31, .u (.int .i64 i.1))]) (fun i => (c :: s).length - i.1) ⟨0, by omega⟩ ?_ ?_
    ·exact (Wk.cut rfl (by simp [hn, St.lp]) (by simp [wkO, St.lp, zaa, getK, Ob.under, D.under, zad, zag, zbc]) (by simp [wkU, St.lp, zan, zaa, getK, D.under, zbc]) (by simp [wkE, St.lp, zan, zaa, getK, zbc] <;> (try (intros; simp_all; done)) <;> (try (intros; omega)) <;> (try grind)))
    rintro ⟨i, hi⟩;simp [St.lp, St.only, zan, zaa, getK];rcases hx : (c :: s)[i]? with _ | a
    ·have hge : (c :: s).length <= i := by simpa using hx
     obtain rfl : i = (c :: s).length := by omega
     rw [List.take_length];have hge2 : ¬ ((c :: s).length : Int) < s.length + 1 := by simp
     by_cases hb : 1099511627776 < zbc (c :: s)
     ·repeat' (first
  | ((first | refine zae ?_ | refine zaj ?_ | refine zah ?_ | refine zai ?_ | fail); simp [hb, hge2])
  | (refine zaq ?_; simp only [zao])
  | (refine zbA ?_; simp [zao])
  | fail)
      (refine EndOK.val (.inr rfl) ?_; simp [zaG, zaf, zar, Tryz.results125])
      try simp [hb]
     ·repeat' (first
  | ((first | refine zae ?_ | refine zaj ?_ | refine zah ?_ | refine zai ?_ | fail); simp [hb, hge2])
  | ((first | refine zaq ?_ | refine zap ?_ | fail); simp only [zao])
  | (refine zbA ?_; simp [zao])
  | fail)
      (refine EndOK.val (.inr rfl) ?_; simp [zaG, zaf, zar, Tryz.results125])
      try simp [hb]
    ·have hlt : i < (c :: s).length := (lGE.1 hx).1;have hlt2 : (i : Int) < s.length + 1 := by simp at hlt; omega
     have hd := hall a (List.mem_of_getElem? hx);simp only [zaM, Bool.and_eq_true, decide_eq_true_eq] at hd;have hv := hval i hi;have hv2 := hval (i + 1) hlt;have hsn : zbc ((c :: s).take (i + 1)) = 10 * zbc ((c :: s).take i) + ((a.toNat : Int) - 48) := by
      rw [List.take_succ, hx]; exact zdE _ _
     generalize zbc ((c :: s).take i) = dv at hv hsn;have hsn2 := hsn.symm
     repeat' (first
  | ((first | refine zae ?_ | refine zaj ?_ | fail); simp [hx, hlt2, hsn2])
  | (refine ⟨by omega, ?_⟩)
  | ((first | refine zah ?_ | refine zax ?_ | fail); simp [hx, hlt2, hsn2])
  | (refine zap ?_; simp only [zao])
  | fail)
     refine LoopW.next ⟨i + 1, hlt⟩ (by simp at hlt; simp; omega) ?_
     exact (Wk.cut rfl (by simp [hn, St.lp]) (by simp [wkO, St.lp, zaa, getK, Ob.under, D.under, zad, zag, hsn]) (by simp [wkU, St.lp, zan, zaa, getK, D.under, hsn]) (by simp [wkE, St.lp, zan, zaa, getK, hsn] <;> (try (intros; simp_all; done)) <;> (try (intros; omega)) <;> (try grind)))
  exact hloop h2'
theorem zkL (s p : List UInt8) : Fun Tryz.prog 142 [.u (.str s), .u (.str p)] (· = .u (.bool (p.isPrefixOf s))) := by
 by_cases hl : p.length <= s.length
 ·have hl2 : (p.length : Int) <= s.length := by omega
  by_cases he : s.take p.length = p
  ·have hp : p.isPrefixOf s = true := List.isPrefixOf_iff_prefix.2 (List.prefix_iff_eq_take.2 he.symm)
   (refine Fun.of_body Tryz.func142 rfl (by simp) fun Γ hn => ?_); simp only [entry, ziC, ziN, maC, maN, oA, Tryz.ntmps142]
   repeat' (first
  | ((first | refine zae ?_ | refine zaj ?_ | refine zah ?_ | fail); simp [hl, hl2, he])
  | (refine zaq ?_; simp only [zao])
  | fail)
   all_goals
    (refine EndOK.val (.inr rfl) ?_; simp [zaG, zaf, zar, Tryz.results142])
   all_goals first | (rw [hp]; done) | exact List.isPrefixOf_iff_prefix.1 hp | (simp [hp]; done) | rfl
  ·have hp : p.isPrefixOf s = false := by
    cases h : p.isPrefixOf s with
    | false => rfl
    | true => exact absurd (List.prefix_iff_eq_take.1 (List.isPrefixOf_iff_prefix.1 h)).symm he
   (refine Fun.of_body Tryz.func142 rfl (by simp) fun Γ hn => ?_); simp only [entry, ziC, ziN, maC, maN, oA, Tryz.ntmps142]
   repeat' (first
  | ((first | refine zae ?_ | refine zaj ?_ | refine zah ?_ | fail); simp [hl, hl2, he])
  | (refine zaq ?_; simp only [zao])
  | fail)
   all_goals
    (refine EndOK.val (.inr rfl) ?_; simp [zaG, zaf, zar, Tryz.results142])
   all_goals first | (rw [hp]; done) | exact List.isPrefixOf_iff_prefix.1 hp | (simp [hp]; done) | rfl
 ·have hl2 : ¬ (p.length : Int) <= s.length := by omega
  have hp : p.isPrefixOf s = false := by
   cases h : p.isPrefixOf s with
   | false => rfl
   | true => exact absurd (List.isPrefixOf_iff_prefix.1 h).length_le hl
  (refine Fun.of_body Tryz.func142 rfl (by simp) fun Γ hn => ?_); simp only [entry, ziC, ziN, maC, maN, oA, Tryz.ntmps142]
  repeat' (first
  | ((first | refine zae ?_ | refine zaj ?_ | refine zah ?_ | fail); simp [hl, hl2])
  | (refine zaq ?_; simp only [zao])
  | fail)
  all_goals
   (refine EndOK.val (.inr rfl) ?_; simp [zaG, zaf, zar, Tryz.results142])
  all_goals first | (rw [hp]; done) | exact List.isPrefixOf_iff_prefix.1 hp | (simp [hp]; done) | rfl
theorem zl7 (s p : List UInt8) : Fun Tryz.prog 126 [.u (.str s), .u (.str p)] (· = .u (.bool (p.isPrefixOf s))) := by
 have h := zkL s p
 (refine Fun.of_body Tryz.func126 rfl (by simp) fun Γ hn => ?_); simp only [entry, ziC, ziN, maC, maN, oA, Tryz.ntmps126]
 repeat' (first
  | ((first | refine zae ?_ | refine zaj ?_ | refine zah ?_ | fail); simp)
  | (refine zaq ?_; simp only [zao])
  | (refine CallP.fE (h) (by first | rfl | fail) (by first | (simp; done) | (simp; rfl) | fail) ?_; (try simp))
  | fail)
 (refine EndOK.val (.inr rfl) ?_; simp [zaG, zaf, zar, Tryz.results126])
@[local simp] theorem zqZ : zog 0 = .u (.row (signsL.map .str) 0) := by
 simp [zog, globs, signsL, uOf]
theorem hsl : signsL.length = 11 := rfl
theorem zo4 (s : List UInt8) (hs : s ≠ []) (hl : s.length <= 1000000) : Fun Tryz.prog 77 [.u (.str s)] (· = nextD s) := by
 obtain ⟨c, r, rfl⟩ : ∃ c r, s = c :: r := by cases s with | nil => exact absurd rfl hs | cons c r => exact ⟨c, r, rfl⟩
 have h1 := zdS c;have h2 := zey c;have h3 := ze8 (c :: r) hl 124 zca (fun c _ => znD c) (by simp);have h4 := ze8 (c :: r) hl 104 zaM (fun c _ => zey c) (by simp);have h5 := zk7 ((c :: r).take (zbE zca (c :: r)));have h6 := zmg ((c :: r).take (zbE zaM (c :: r))) (by have := zdA zaM (c :: r); rw [List.length_take]; omega);have l1 : (zbE zca (c :: r) : Int) <= r.length + 1 := by have := zdA zca (c :: r); simp at this; omega
 have l2 : (zbE zaM (c :: r) : Int) <= r.length + 1 := by have := zdA zaM (c :: r); simp at this; omega
 have l1' : zbE zca (c :: r) <= r.length + 1 := by omega
 have l2' : zbE zaM (c :: r) <= r.length + 1 := by omega
 unfold nextD zeN;cases c1 : zbl c with
 | true =>
  rw [c1] at h1;cases c3 : zeU ((c :: r).take (zbE zca (c :: r))) with
  | true =>
   rw [c3] at h5
   (refine Fun.of_body Tryz.func77 rfl (by simp) fun Γ hn => ?_); simp only [entry, ziC, ziN, maC, maN, oA, Tryz.ntmps77]
   repeat' (first
  | ((first | refine zae ?_ | refine zaj ?_ | refine zah ?_ | refine zai ?_ | fail); simp [l1, l1'])
  | ((first | refine zaq ?_ | refine zap ?_ | fail); simp only [zao])
  | (refine CallP.fE (h1) (by first | rfl | fail) (by first | simp [l1, l1'] <;> rfl | fail) ?_; (try simp [l1, l1']))
  | (refine CallP.fE (h3) (by first | rfl | fail) (by first | simp [l1, l1'] <;> rfl | fail) ?_; (try simp [l1, l1']))
  | (refine CallP.fE (h5) (by first | rfl | fail) (by first | simp [l1, l1'] <;> rfl | fail) ?_; (try simp [l1, l1']))
  | fail)
   (refine EndOK.val (.inr rfl) ?_; simp [zaG, zaf, zar, Tryz.results77])
   simp [c1, c3]
  | false =>
   rw [c3] at h5
   (refine Fun.of_body Tryz.func77 rfl (by simp) fun Γ hn => ?_); simp only [entry, ziC, ziN, maC, maN, oA, Tryz.ntmps77]
   repeat' (first
  | ((first | refine zae ?_ | refine zaj ?_ | refine zah ?_ | refine zai ?_ | fail); simp [l1, l1'])
  | (refine zaq ?_; simp only [zao])
  | (refine CallP.fE (h1) (by first | rfl | fail) (by first | simp [l1, l1'] <;> rfl | fail) ?_; (try simp [l1, l1']))
  | (refine CallP.fE (h3) (by first | rfl | fail) (by first | simp [l1, l1'] <;> rfl | fail) ?_; (try simp [l1, l1']))
  | (refine CallP.fE (h5) (by first | rfl | fail) (by first | simp [l1, l1'] <;> rfl | fail) ?_; (try simp [l1, l1']))
  | fail)
   (refine EndOK.val (.inr rfl) ?_; simp [zaG, zaf, zar, Tryz.results77])
   simp [c1, c3]
 | false =>
  rw [c1] at h1;cases c2 : zaM c with
  | true =>
   rw [c2] at h2;cases c3 : zem ((c :: r).take (zbE zaM (c :: r))) with
   | none =>
    rw [c3] at h6
    (refine Fun.of_body Tryz.func77 rfl (by simp) fun Γ hn => ?_); simp only [entry, ziC, ziN, maC, maN, oA, Tryz.ntmps77]
    repeat' (first
  | ((first | refine zae ?_ | refine zaj ?_ | refine zah ?_ | refine zai ?_ | fail); simp [l2, l2'])
  | (refine zaq ?_; simp only [zao])
  | (refine CallP.fE (h1) (by first | rfl | fail) (by first | simp [l2, l2'] <;> rfl | fail) ?_; (try simp [l2, l2']))
  | (refine CallP.fE (h2) (by first | rfl | fail) (by first | simp [l2, l2'] <;> rfl | fail) ?_; (try simp [l2, l2']))
  | (refine CallP.fE (h4) (by first | rfl | fail) (by first | simp [l2, l2'] <;> rfl | fail) ?_; (try simp [l2, l2']))
  | (refine CallP.fE (h6) (by first | rfl | fail) (by first | simp [l2, l2'] <;> rfl | fail) ?_; (try simp [l2, l2']))
  | fail)
    (refine EndOK.val (.inr rfl) ?_; simp [zaG, zaf, zar, Tryz.results77])
    simp [c1, c2, c3]
   | some n =>
    rw [c3] at h6
    (refine Fun.of_body Tryz.func77 rfl (by simp) fun Γ hn => ?_); simp only [entry, ziC, ziN, maC, maN, oA, Tryz.ntmps77]
    repeat' (first
  | ((first | refine zae ?_ | refine zaj ?_ | refine zah ?_ | refine zai ?_ | fail); simp [l2, l2'])
  | ((first | refine zaq ?_ | refine zap ?_ | fail); simp only [zao])
  | (refine CallP.fE (h1) (by first | rfl | fail) (by first | simp [l2, l2'] <;> rfl | fail) ?_; (try simp [l2, l2']))
  | (refine CallP.fE (h2) (by first | rfl | fail) (by first | simp [l2, l2'] <;> rfl | fail) ?_; (try simp [l2, l2']))
  | (refine CallP.fE (h4) (by first | rfl | fail) (by first | simp [l2, l2'] <;> rfl | fail) ?_; (try simp [l2, l2']))
  | (refine CallP.fE (h6) (by first | rfl | fail) (by first | simp [l2, l2'] <;> rfl | fail) ?_; (try simp [l2, l2']))
  | fail)
    (refine EndOK.val (.inr rfl) ?_; simp [zaG, zaf, zar, Tryz.results77])
    simp [c1, c2, c3]
  | false =>
   rw [c2] at h2
   (refine Fun.of_body Tryz.func77 rfl (by simp) fun Γ hn => ?_); simp only [entry, ziC, ziN, maC, maN, oA, Tryz.ntmps77]
   repeat' (first
  | ((first | refine zae ?_ | refine zaj ?_ | refine zah ?_ | refine zai ?_ | refine zaw ?_ | fail); simp [hsl, List.take_of_length_le])
  | (refine zap ?_; simp only [zao])
  | (refine CallP.fE (h1) (by first | rfl | fail) (by first | simp [hsl, List.take_of_length_le] <;> rfl | fail) ?_; (try simp [hsl, List.take_of_length_le]))
  | (refine CallP.fE (h2) (by first | rfl | fail) (by first | simp [hsl, List.take_of_length_le] <;> rfl | fail) ?_; (try simp [hsl, List.take_of_length_le]))
  | fail)
   refine zcl (α := { i : Nat // i <= 11 /\ ∀ x ∈ signsL.take i, x.isPrefixOf (c :: r) = false }) [0, 2, 3, 43] (fun i => [(44, .u (.int .i64 i.1))]) (fun i => 11 - i.1) ⟨0, by omega, by simp⟩ ?_ ?_
   ·exact (Wk.cut rfl (by simp [hn, St.lp]) (by simp [wkO, St.lp, zaa, getK, Ob.under, D.under, zad, zag]) (by simp [wkU, St.lp, zan, zaa, getK, D.under]) (by simp [wkE, St.lp, zan, zaa, getK] <;> (try (intros; simp_all; done)) <;> (try (intros; omega)) <;> (try grind)))
   rintro ⟨i, hi, hb⟩;simp [St.lp, St.only, zan, zaa, getK];rcases hx : signsL[i]? with _ | x
   ·have hge : signsL.length <= i := by simpa using hx
    obtain rfl : i = 11 := by rw [hsl] at hge; omega
    have hnone : signsL.find? (fun x => x.isPrefixOf (c :: r)) = none := List.find?_eq_none.2 fun x hx => by
     rw [hb x (by rw [List.take_of_length_le (by rw [hsl]; omega)]; exact hx)]; simp
    repeat' (first
  | ((first | refine zae ?_ | refine zaj ?_ | refine zah ?_ | fail); simp)
  | (refine zaq ?_; simp only [zao])
  | (refine zbA ?_; simp [zao])
  | fail)
    (refine EndOK.val (.inr rfl) ?_; simp [zaG, zaf, zar, Tryz.results77])
    simp [c1, c2, hnone]
   ·have hlt : i < 11 := by have := (lGE.1 hx).1; rw [hsl] at this; exact this
    have hlt2 : (i : Int) < 11 := by omega
    have hp := zl7 (c :: r) x;by_cases hpx : x.isPrefixOf (c :: r) = true
    ·have hfind : signsL.find? (fun x => x.isPrefixOf (c :: r)) = some x := by
      have e : signsL = signsL.take i ++ x :: signsL.drop (i + 1) := by
       obtain ⟨h5, h6⟩ := lGE.1 hx;rw [<- h6, List.getElem_cons_drop, List.take_append_drop]
      rw [e, List.find?_append, List.find?_eq_none.2 (fun y hy => by rw [hb y hy]; simp), List.find?_cons, hpx];rfl
     rw [hpx] at hp
     repeat' (first
  | ((first | refine zae ?_ | refine zaj ?_ | refine zah ?_ | refine zai ?_ | fail); simp [hx, hsl, hlt2])
  | ((first | refine zaq ?_ | refine zap ?_ | fail); simp only [zao])
  | (refine CallP.fE (hp) (by first | rfl | fail) (by first | simp [hx, hsl, hlt2] <;> rfl | fail) ?_; (try simp [hx, hsl, hlt2]))
  | fail)
     (refine EndOK.val (.inr rfl) ?_; simp [zaG, zaf, zar, Tryz.results77])
     simp [c1, c2, hfind]
    ·rw [Bool.eq_false_iff.2 hpx] at hp
     repeat' (first
  | ((first | refine zae ?_ | refine zaj ?_ | fail); simp [hx, hsl, hlt2])
  | (refine ⟨by omega, ?_⟩)
  | ((first | refine zah ?_ | refine zai ?_ | refine zax ?_ | fail); simp [hx, hsl, hlt2])
  | (refine zap ?_; simp only [zao])
  | (refine CallP.fE (hp) (by first | rfl | fail) (by first | simp [hx, hsl, hlt2] <;> rfl | fail) ?_; (try simp [hx, hsl, hlt2]))
  | fail)
     refine LoopW.next ⟨i + 1, by omega, fun y hy => ?_⟩ (by simp; omega) ?_
     ·rw [List.take_succ, hx] at hy;rcases List.mem_append.1 hy with h | h
      ·exact hb y h
      ·simp at h; subst h; exact Bool.eq_false_iff.2 hpx
     ·exact (Wk.cut rfl (by simp [hn, St.lp]) (by simp [wkO, St.lp, zaa, getK, Ob.under, D.under, zad, zag]) (by simp [wkU, St.lp, zan, zaa, getK, D.under]) (by simp [wkE, St.lp, zan, zaa, getK] <;> (try (intros; simp_all; done)) <;> (try (intros; omega)) <;> (try grind)))
end Go.Proofs.YthnemhfamhnfjaaGreatDoor
namespace Go.Proofs.YthnemhfamhnfjaaGreatDoor
open Go Go.VL Go.ChangeShapes Go.WideShapes Go.ChangeAt Go.RowKit
theorem zr1 {r : List U} (h : HasRow Tryz.prog 28 r) : ∃ b : By, r = za1 b := by
 obtain ⟨rs, hr, h⟩ := h.of_struct zsc
 match rs, h with
 | [a1, a2, a3, a4, a5, a6, a7, a8, a9, a10, a11, a12, a13, a14, a15, a16, a17], h =>
  obtain ⟨h1, h2, h3, h4, h5, h6, h7, h8, h9, h10, h11, h12, h13, h14, h15, h16, h17, _⟩ := h;obtain ⟨x1, rfl, _⟩ := h1.of_int io3;obtain ⟨x2, rfl, _⟩ := h2.of_int io3;obtain ⟨x3, rfl, _⟩ := h3.of_int io3;obtain ⟨x4, rfl, _⟩ := h4.of_int io3;obtain ⟨x5, rfl, _⟩ := h5.of_int io3;obtain ⟨x6, rfl, _⟩ := h6.of_int io3;obtain ⟨x7, rfl⟩ := h7.of_bool (by simp);obtain ⟨x8, rfl, _⟩ := h8.of_int io3;obtain ⟨x9, rfl, _⟩ := h9.of_int io3;obtain ⟨x10, rfl, _⟩ := h10.of_int io3;obtain ⟨x11, rfl, _⟩ := h11.of_int io3;obtain ⟨rows, rfl, _, h12⟩ := h12.of_slice zsS;obtain ⟨l, rfl, _⟩ := rows_list (fun l : Let => [.str l.name, .int .i64 l.body.op, .int .i64 l.body.n, .int .i64 l.body.unit, .str l.body.s, .sl (l.body.args.map Exp.row)]) (fun _ => True) (rows := rows) fun r hr => zrb (h12 r hr);obtain ⟨e1, rfl⟩ := zfS h13;obtain ⟨e2, rfl⟩ := zfS h14;obtain ⟨e3, rfl⟩ := zfS h15;obtain ⟨e4, rfl⟩ := zfS h16;obtain ⟨e5, rfl⟩ := zfS h17;exact ⟨⟨x1, x2, x3, x4, x5, x6, x7, x8, x9, x10, x11, l, e1, e2, e3, e4, e5⟩, by rw [hr]; rfl⟩
end Go.Proofs.YthnemhfamhnfjaaGreatDoor
namespace Go.Proofs.YthnemhfamhnfjaaGreatDoor
open Go Go.VL
def zln : Nat -> List UInt8 -> Nat -> Except (Nat × Int) (List Tok)
 | 0, _, _ => .ok []
 | f + 1, s, p =>
  match (s.drop (p + zbE za0 (s.drop p))) with
  | [] => .ok [⟨0, [], 0, ((p + zbE za0 (s.drop p) : Nat) : Int)⟩]
  | c :: r => match zeN (c :: r) with
   | .error e => .error (p + zbE za0 (s.drop p), e)
   | .ok t => match zln f s (p + zbE za0 (s.drop p) + t.text.length) with
    | .error x => .error x
    | .ok l => .ok ({ t with pos := ((p + zbE za0 (s.drop p) : Nat) : Int) } :: l)
def zkw (s : List UInt8) : Except (Nat × Int) (List Tok) := if 2000 < s.length then .error (0, 6) else zln (s.length + 1) s 0
def zhQ : Except (Nat × Int) (List Tok) -> D
 | .ok l => .tup [.u (.sl (l.map fun t => [.int .i64 t.kind, .str t.text, .int .i64 t.n, .int .i64 t.pos])), .u (.int .i64 0), .u (.int .i64 0)]
 | .error (p, e) => .tup [.u (.sl []), .u (.int .i64 p), .u (.int .i64 e)]
def zl6 (acc : List Tok) : Except (Nat × Int) (List Tok) -> Except (Nat × Int) (List Tok)
 | .ok l => .ok (acc ++ l)
 | .error x => .error x
theorem znl (x) : zl6 [] x = x := by cases x <;> simp [zl6]
theorem zi9 {p : UInt8 -> Bool} {c : UInt8} {r : List UInt8} (h : p c = true) : 0 < zbE p (c :: r) := by
 unfold zbE; rw [List.takeWhile_cons, if_pos h]; simp
theorem zfI {s : List UInt8} {t : Tok} (h : zeN s = .ok t) : 0 < t.text.length /\ t.text.length <= s.length := by
 unfold zeN at h;split at h
 ·cases h
 ·rename_i c r;by_cases c1 : zbl c = true
  ·rw [if_pos c1] at h;split at h
   ·cases h;have h1 := zi9 (p := zca) (c := c) (r := r) (by simp [zca, c1]);have h2 := zdA zca (c :: r);simp only [List.length_take];omega
   ·cases h
  ·rw [if_neg c1] at h;by_cases c2 : zaM c = true
   ·rw [if_pos c2] at h;split at h
    ·cases h;have h1 := zi9 (p := zaM) (c := c) (r := r) c2;have h2 := zdA zaM (c :: r);simp only [List.length_take];omega
    ·cases h
   ·rw [if_neg c2] at h;split at h
    ·rename_i x hx;cases h;have h1 := List.find?_some hx;have h2 := List.mem_of_find?_eq_some hx;refine ⟨?_, (List.isPrefixOf_iff_prefix.1 h1).length_le⟩;simp only [signsL, List.mem_cons, List.not_mem_nil, or_false] at h2;rcases h2 with h | h | h | h | h | h | h | h | h | h | h <;> subst h <;> simp
    ·cases h
def zig (l : List Tok) : List (List D) := l.map fun t => [.u (.int .i64 t.kind), .u (.str t.text), .u (.int .i64 t.n), .u (.int .i64 t.pos)]
theorem zcs (l : List Tok) : (zig l).length = l.length := by simp [zig]
theorem zi5 (l : List Tok) : rowsD (l.map fun t => [U.int .i64 t.kind, .str t.text, .int .i64 t.n, .int .i64 t.pos]) = zig l := by simp [rowsD, zig, Function.comp_def]
theorem zk9 (l : List Tok) : zcL (zig l) = some (l.map fun t => [U.int .i64 t.kind, .str t.text, .int .i64 t.n, .int .i64 t.pos]) := by rw [<- zi5]; simp
theorem zgN (l) : zaO (zig l) = True := by rw [<- zi5]; simp
theorem zfC (n : Nat) (l) : (∀ x ∈ zig l, ∀ y ∈ x, D.under n y = true) ↔ True := by
 refine ⟨fun _ => trivial, fun _ x hx y hy => ?_⟩;obtain ⟨b, _, rfl⟩ := List.mem_map.1 hx;simp at hy;rcases hy with rfl | rfl | rfl | rfl <;> simp [D.under]
end Go.Proofs.YthnemhfamhnfjaaGreatDoor
namespace Go.Proofs.YthnemhfamhnfjaaGreatDoor
open Go Go.VL
abbrev zm9 (l : List Tok) : U := .sl (l.map fun t => [.int .i64 t.kind, .str t.text, .int .i64 t.n, .int .i64 t.pos])
abbrev pOb (l : List Tok) (p : Nat) : Ob := .box [.u (zm9 l), .u (.int .i64 p)]
abbrev zpZ (l : List Tok) (p : Nat) : U := .row [zm9 l, .int .i64 p] 0
structure TokOK (l : List Tok) : Prop where
 fin : ∀ (i : Nat) (t : Tok), l[i]? = some t -> t.kind ≠ 0 -> i + 1 < l.length
 len : l.length <= 1000000
def isB (l : List Tok) (p : Nat) (w : List UInt8) : Bool := match l[p]? with | some t => decide (t.kind ≠ 0) && decide (t.text = w) | none => false
theorem zbd {l : List Tok} {p : Nat} {w : List UInt8} (hl : TokOK l) (h : isB l p w = true) : p + 1 < l.length := by
 unfold isB at h;split at h
 ·rename_i t ht;simp only [Bool.and_eq_true, decide_eq_true_eq] at h;exact hl.fin p t ht h.1
 ·cases h
end Go.Proofs.YthnemhfamhnfjaaGreatDoor
namespace Go.Proofs.YthnemhfamhnfjaaGreatDoor
open Go Go.VL
noncomputable def eqB {α : Type} (a b : α) : Bool := @decide (a = b) (Classical.propDecidable _)
theorem zb1 {α : Type} {a b : α} : eqB a b = true ↔ a = b := by unfold eqB; exact @decide_eq_true_iff _ (Classical.propDecidable _)
theorem zev {α : Type} (a : α) : eqB a a = true := zb1.2 rfl
theorem zdV {α : Type} {a b : α} (h : a ≠ b) : eqB a b = false := by
 cases hb : eqB a b with
 | false => rfl
 | true => exact absurd (zb1.1 hb) h
end Go.Proofs.YthnemhfamhnfjaaGreatDoor
namespace Go.Proofs.YthnemhfamhnfjaaGreatDoor
open Go Go.VL
attribute [local simp] zc2 zck evPure opd uOf zaH St.put St.at getK binD binI binS binB nilD aggD zhr zh0 lookD lookR zcz Go.VL.nextD zcC ziz zia zgs zcu mkV zdn zbo zby mapEff zeb zgf Key.kk shiftI arith unD convD zdO loadD cellsAt fieldAddrD fieldD indexAddrD indexD sliceD cutD lenD minmaxD nilCheckD buildD fillD zbR zdd zeM setAll zcK zeS zcq zhB zcn St.add zaQ zbI rowsOf zdJ zcD zak zac zaa zbn zdb zba entry zbK zbT valD zb3 zcx zhn zdl zdm zbU zbM zav zaX zbr delAll effD St.effS zc8 zbg za5 zda zbh za7 zcc za6 zaW zcd zcX zbD zb7 zbp zb5 zb6 zaJ mkD zbV zbB zbL zav zco D.ids Op.operands Call.operands zbG makeIfD makeFuncD typeAssertD zhZ zdx zdy zhD zcA IntKind.bits zcL List.take_of_length_le List.range_succ
attribute [local irreducible] V G H HD HD2 zao Eff CallP CallV EndOK Fun Ret FinOK LoopI LoopW EndW
theorem znM (s : List UInt8) : Fun Tryz.prog 32 [.u (.str s)] (· = zhQ (zkw s)) := by
 unfold zkw;by_cases hlong : 2000 < s.length
 ·have hlong2 : 2000 < (s.length : Int) := by omega
  rw [if_pos hlong]
  (refine Fun.of_bodyW Tryz.func32 rfl (by simp) fun Γ hn => ?_); simp only [entry, ziC, ziN, maC, maN, oA, Tryz.ntmps32]
  repeat' (first
  | ((first | refine zae ?_ | refine zaj ?_ | refine zah ?_ | refine zai ?_ | fail); simp [hlong, hlong2])
  | (refine zaq ?_; simp only [zao])
  | fail)
  refine EndW.norm (EndW.here ?_)
  (refine EndOK.val (.inr rfl) ?_; simp [zaG, zaf, zar, Tryz.results32, zaz, zaA, zis, zit, frz, zbf, frzS, fv, zaF, zbb, zbe, zaE, zau, zal, zbX, zci, zcj, zbj])
  simp [zhQ]
 rw [if_neg hlong];have hlong2 : ¬ 2000 < (s.length : Int) := by omega
 obtain ⟨R, hR⟩ : ∃ R, R = zln (s.length + 1) s 0 := ⟨_, rfl⟩;rw [<- hR]
 (refine Fun.of_bodyW Tryz.func32 rfl (by simp) fun Γ hn => ?_); simp only [entry, ziC, ziN, maC, maN, oA, Tryz.ntmps32]
 repeat' (first
  | ((first | refine zae ?_ | refine zaj ?_ | refine zah ?_ | refine zai ?_ | refine zaw ?_ | fail); simp [hlong, hlong2])
  | (refine zap ?_; simp only [zao])
  | fail)
 refine zgw _ (Wk.own 5 52 4 (by decide) rfl) ?_;simp [St.own];refine zdL (α := { x : List Tok × Nat × Nat // x.2.1 <= s.length /\ s.length < x.2.1 + x.2.2 /\ x.1.length <= x.2.1 /\ R = zl6 x.1 (zln x.2.2 s x.2.1) }) [0] (fun x => [(5, .vec 0 x.1.1.length), (6, .u (.int .i64 x.1.2.1))]) (fun x => [(0, .vec 52 4 (zig x.1.1))]) 1 (fun x => x.1.2.2) ⟨([], 0, s.length + 1), by simp, by simp, by simp, by rw [znl, hR]⟩ ?_ ?_
 ·exact (Wk.cut rfl (by simp [hn, St.lp]) (by simp [wkO, St.lp, zaa, getK, Ob.under, D.under, zad, zag, zig]) (by simp [wkU, St.lp, zan, zaa, getK, D.under, zig]) (by simp [wkE, St.lp, zan, zaa, getK, zig] <;> (try (intros; simp_all; done)) <;> (try (intros; omega)) <;> (try grind)))
 rintro ⟨⟨acc, p, f⟩, h1, h2, h3, h4⟩;simp only at h1 h2 h3 h4;simp [St.lp, St.only, zan, zaa, getK];obtain ⟨f', rfl⟩ : ∃ f', f = f' + 1 := ⟨f - 1, by omega⟩;rw [zln] at h4;have hsp := ze8 (s.drop p) (by rw [List.length_drop]; omega) 76 za0 (fun c _ => zor c) (by simp);have hle := zdA za0 (s.drop p);rw [List.length_drop] at hle;obtain ⟨b, hb⟩ : ∃ b, b = zbE za0 (s.drop p) := ⟨_, rfl⟩;rw [<- hb] at hsp hle h4;have hp1 : (p : Int) <= s.length := by omega
 have hpb : (p : Int) + b <= s.length := by omega
 rcases hd : s.drop (p + b) with _ | ⟨c, r⟩
 ·have hdl : (s.drop (p + b)).length = 0 := by rw [hd]; rfl
  rw [List.length_drop] at hdl;have hpe : p + b = s.length := by omega
  have hpe2 : (p : Int) + b = s.length := by omega
  rw [hd] at h4;simp only at h4;have hap : zig acc ++ [[D.u (.int .i64 0), D.u (.str []), D.u (.int .i64 0), D.u (.int .i64 (s.length : Int))]] = zig (acc ++ [⟨0, [], 0, s.length⟩]) := by simp [zig]
  have hlr : zhS 4 (zig acc) := fun r hr => by obtain ⟨t, _, rfl⟩ := List.mem_map.1 hr; rfl
  rw [hpe] at h4
  repeat' (first
  | ((first | refine zae ?_ | refine zaj ?_ | fail); simp [h1, hp1, hpe2, zcs, hap, hlr])
  | (refine ⟨by omega, ?_⟩)
  | ((first | refine zah ?_ | refine zai ?_ | refine zaw ?_ | fail); simp [h1, hp1, hpe2, zcs, hap, hlr])
  | (refine zaq ?_; simp only [zao])
  | (refine CallP.fE (hsp) (by first | rfl | fail) (by first | simp [h1, hp1, hpe2, zcs, hap, hlr] <;> rfl | fail) ?_; (try simp [h1, hp1, hpe2, zcs, hap, hlr]))
  | fail)
  (refine EndW.frzN 3 ?_; simp [frzN, frz1, zaA, zaz, St.frz, St.frzS, frzS, fv, zaF, zbb, zbe, zaE, zau, zal, del, frz, zbf, zk9, zcs, List.length_append])
  refine EndW.norm (EndW.here ?_)
  (refine EndOK.val (.inr rfl) ?_; simp [zaG, zaf, zar, Tryz.results32, zaz, zaA, zis, zit, frz, zbf, frzS, fv, zaF, zbb, zbe, zaE, zau, zal, zbX, zci, zcj, zbj, zk9, zcs, List.length_append])
  rw [h4];simp [zl6, zhQ]
 ·have hdl : (s.drop (p + b)).length = r.length + 1 := by rw [hd]; rfl
  rw [List.length_drop] at hdl;have hpe : ¬ p + b = s.length := by omega
  have hpe2 : ¬ (p : Int) + b = s.length := by omega
  have hnx := zo4 (s.drop (p + b)) (by rw [hd]; simp) (by rw [List.length_drop]; omega);unfold nextD at hnx;rw [hd] at h4;simp only at h4;rw [hd] at hnx;have hpb2 : ((p : Int) + b).toNat = p + b := by omega
  have hpb3 : p + b <= s.length := by omega
  cases hno : zeN (c :: r) with
  | error e =>
   rw [hno] at h4 hnx;have he : e ≠ 0 := by
    unfold zeN at hno;simp only at hno;split at hno
    ·split at hno <;> cases hno;omega
    ·split at hno
     ·split at hno <;> cases hno;omega
     ·split at hno <;> cases hno;omega
   repeat' (first
  | ((first | refine zae ?_ | refine zaj ?_ | fail); simp [h1, hp1, hpe, hpe2, hd, he, hpb, hpb2, hpb3])
  | (refine ⟨by omega, ?_⟩)
  | ((first | refine zah ?_ | refine zai ?_ | refine zaw ?_ | fail); simp [h1, hp1, hpe, hpe2, hd, he, hpb, hpb2, hpb3])
  | ((first | refine zaq ?_ | refine zap ?_ | fail); simp only [zao])
  | (refine CallP.fE (hsp) (by first | rfl | fail) (by first | simp [h1, hp1, hpe, hpe2, hd, he, hpb, hpb2, hpb3] <;> rfl | fail) ?_; (try simp [h1, hp1, hpe, hpe2, hd, he, hpb, hpb2, hpb3]))
  | (refine CallP.fE (hnx) (by first | rfl | fail) (by first | simp [h1, hp1, hpe, hpe2, hd, he, hpb, hpb2, hpb3] <;> rfl | fail) ?_; (try simp [h1, hp1, hpe, hpe2, hd, he, hpb, hpb2, hpb3]))
  | fail)
   refine EndW.norm (EndW.here ?_)
   (refine EndOK.val (.inr rfl) ?_; simp [zaG, zaf, zar, Tryz.results32, zaz, zaA, zis, zit, frz, zbf, frzS, fv, zaF, zbb, zbe, zaE, zau, zal, zbX, zci, zcj, zbj])
   rw [h4];simp [zl6, zhQ]
  | ok t =>
   rw [hno] at h4 hnx;obtain ⟨ht1, ht2⟩ := zfI hno;simp only [List.length_cons] at ht2;have hap : zig acc ++ [[D.u (.int .i64 t.kind), D.u (.str t.text), D.u (.int .i64 t.n), D.u (.int .i64 ((p : Int) + b))]] = zig (acc ++ [{ t with pos := ((p + b : Nat) : Int) }]) := by simp [zig]
   have hlr : zhS 4 (zig acc) := fun r hr => by obtain ⟨t, _, rfl⟩ := List.mem_map.1 hr; rfl
   repeat' (first
  | ((first | refine zae ?_ | refine zaj ?_ | fail); simp [h1, hp1, hpe, hpe2, hd, hpb, hpb2, hpb3, zcs, hap, hlr])
  | (refine ⟨by omega, ?_⟩)
  | ((first | refine zah ?_ | refine zai ?_ | refine zaw ?_ | refine zax ?_ | fail); simp [h1, hp1, hpe, hpe2, hd, hpb, hpb2, hpb3, zcs, hap, hlr])
  | (refine zap ?_; simp only [zao])
  | (refine CallP.fE (hsp) (by first | rfl | fail) (by first | simp [h1, hp1, hpe, hpe2, hd, hpb, hpb2, hpb3, zcs, hap, hlr] <;> rfl | fail) ?_; (try simp [h1, hp1, hpe, hpe2, hd, hpb, hpb2, hpb3, zcs, hap, hlr]))
  | (refine CallP.fE (hnx) (by first | rfl | fail) (by first | simp [h1, hp1, hpe, hpe2, hd, hpb, hpb2, hpb3, zcs, hap, hlr] <;> rfl | fail) ?_; (try simp [h1, hp1, hpe, hpe2, hd, hpb, hpb2, hpb3, zcs, hap, hlr]))
  | fail)
   refine LoopW.next ⟨(acc ++ [{ t with pos := ((p + b : Nat) : Int) }], p + b + t.text.length, f'), by simp; omega, by simp; omega, by simp; omega, ?_⟩ (by simp) ?_
   ·rw [h4];simp only;cases zln f' s (p + b + t.text.length) <;> simp [zl6]
   ·skip
    exact (Wk.ren ((fun i => if i = 0 then 3 else i)) rfl (by first | (simp [hn]; done) | (intro i hi; rw [hn] at hi; constructor <;> (try simp) <;> (try (intro _)) <;> omega)) (by simp [zge, St.lp, zan, zaa, getK, zac, zak, D.under, D.le, D.ren, zgN, zfC] <;> (try (intros; simp_all; done)) <;> (try omega)) (by simp [wkR, St.lp, zaa, getK, zac, zak, obR, leU, zbi, zaO, Ob.under, D.under, D.le, D.ren, zgN, zfC] <;> (try (intros; simp_all; done)) <;> (try omega)) (by simp [zgN, zfC]))
end Go.Proofs.YthnemhfamhnfjaaGreatDoor
namespace Go.Proofs.YthnemhfamhnfjaaGreatDoor
open Go Go.VL
attribute [local simp] HS zc2 zck evPure opd uOf zaH St.put St.at getK binD binI binS binB nilD aggD zhr zh0 lookD lookR zcz Go.VL.nextD zcC ziz zia zgs zcu mkV zdn zbo zby mapEff zeb zgf Key.kk shiftI arith unD convD zdO loadD cellsAt fieldAddrD fieldD indexAddrD indexD sliceD cutD lenD minmaxD nilCheckD buildD fillD zbR zdd zeM setAll zcK zeS zcq zhB zcn St.add zaQ zbI rowsOf zdJ zcD zak zac zaa zbn zdb zba entry zbK zbT valD zb3 zcx zhn zdl zdm zbU zbM zav zaX zbr delAll effD St.effS zc8 zbg za5 zda zbh za7 zcc za6 zaW zcd zcX zbD zb7 zbp zb5 zb6 zaJ mkD zbV zbB zbL zav zco D.ids Op.operands Call.operands zbG makeIfD makeFuncD typeAssertD zhZ zdx zdy zhD zcA IntKind.bits zcL List.take_of_length_le List.range_succ
attribute [local irreducible] V G H HD HD2 HD4 zkz RetX zao Eff CallP CallV EndOK Fun Ret FinOK LoopI LoopW EndW
theorem zbW (l : List Tok) (p : Nat) (t : Tok) (hp : l[p]? = some t) (hl : l.length <= 1000000) : Fun Tryz.prog 43 [.u (zpZ l p)] (· = .u (.agg [.int .i64 t.kind, .str t.text, .int .i64 t.n, .int .i64 t.pos])) := by
 have hlt := (lGE.1 hp).1;unfold zpZ zm9
 (refine Fun.of_body Tryz.func43 rfl (by simp) fun Γ hn => ?_); simp only [entry, ziC, ziN, maC, maN, oA, Tryz.ntmps43]
 repeat' (first
  | ((first | refine zae ?_ | refine zaU rfl ?_ | refine zbJ rfl ?_ | refine zaj ?_ | refine zah ?_ | fail); simp [hp])
  | (refine za8 (hC _ (by kernel_rfl)) (hk _ ?_); clear hC hk C k; simp only [zao])
  | (refine za9 rfl (by kernel_rfl) (by first | (simp [hn]; done) | (simp [hn]; omega) | fail) fun C k hC hk => ?_; simp [hp])
  | (refine zaq ?_; simp only [zao])
  | fail)
 (refine EndOK.val (.inr rfl) ?_; simp [zaG, zaf, zar, Tryz.results43])
theorem zed (l : List Tok) (p : Nat) (w : List UInt8) (hp : p < l.length) (hl : l.length <= 1000000) : Fun Tryz.prog 79 [.u (zpZ l p), .u (.str w)] (· = .u (.bool (isB l p w))) := by
 obtain ⟨t, ht⟩ : ∃ t, l[p]? = some t := ⟨_, List.getElem?_eq_getElem hp⟩;have hnx := zbW l p t ht hl;unfold isB;rw [ht];unfold zpZ zm9 at *;by_cases h1 : t.kind = 0
 ·(refine Fun.of_body Tryz.func79 rfl (by simp) fun Γ hn => ?_); simp only [entry, ziC, ziN, maC, maN, oA, Tryz.ntmps79]
  repeat' (first
  | ((first | refine zae ?_ | refine zaj ?_ | refine zah ?_ | fail); simp [h1])
  | (refine zaq ?_; simp only [zao])
  | (refine CallP.fE (hnx) (by first | rfl | fail) (by first | simp [h1] <;> rfl | fail) ?_; (try simp [h1]))
  | fail)
  all_goals
    (refine EndOK.val (.inr rfl) ?_; simp [zaG, zaf, zar, Tryz.results79])
  all_goals simp [h1]
 ·(refine Fun.of_body Tryz.func79 rfl (by simp) fun Γ hn => ?_); simp only [entry, ziC, ziN, maC, maN, oA, Tryz.ntmps79]
  repeat' (first
  | ((first | refine zae ?_ | refine zaj ?_ | refine zah ?_ | fail); simp [h1])
  | (refine zaq ?_; simp only [zao])
  | (refine CallP.fE (hnx) (by first | rfl | fail) (by first | simp [h1] <;> rfl | fail) ?_; (try simp [h1]))
  | fail)
  all_goals
    (refine EndOK.val (.inr rfl) ?_; simp [zaG, zaf, zar, Tryz.results79])
  all_goals simp [h1]
theorem zbk (l : List Tok) (p : Nat) (w : List UInt8) (i nx : Nat) (hi : i < nx) (hp : p < l.length) (hl : l.length <= 1000000) :
  RetX Tryz.prog 127 [.ptr i 0, .u (.str w)] [(i, pOb l p)] nx (fun r o n => r = .val (.u (.bool (isB l p w))) /\ o = [(i, pOb l (if isB l p w = true then p + 1 else p))] /\ n = nx) := by
 have h1 := zed l p w hp hl;unfold pOb zpZ zm9 at *;cases hb : isB l p w with
 | false =>
  rw [hb] at h1
  (refine RetX.of_bodyW Tryz.func127 rfl (by simp) fun Γ hn hpan => ?_); simp only [entry, ziC, ziN, maC, maN, oA, Tryz.ntmps127]
  repeat' (first
  | ((first | refine zae ?_ | refine zaj ?_ | refine zah ?_ | refine zai ?_ | fail); simp)
  | (refine zaq ?_; simp only [zao])
  | (refine CallP.fE (h1) (by first | rfl | fail) (by first | (simp; done) | (simp; rfl) | fail) ?_; (try simp))
  | fail)
  (refine EndW.here ?_; (first | (refine EndOK.fin (.inr rfl) ?_) | (refine EndOK.fin (.inl rfl) ?_)); simp [zaG, zaf, Tryz.results127]; refine FinOK.here (by simp) ?_; try simp)
 | true =>
  rw [hb] at h1
  (refine RetX.of_bodyW Tryz.func127 rfl (by simp) fun Γ hn hpan => ?_); simp only [entry, ziC, ziN, maC, maN, oA, Tryz.ntmps127]
  repeat' (first
  | ((first | refine zae ?_ | refine zaj ?_ | fail); simp)
  | (refine ⟨by omega, ?_⟩)
  | ((first | refine zah ?_ | refine zai ?_ | fail); simp)
  | ((first | refine zaq ?_ | refine zap ?_ | fail); simp only [zao])
  | (refine CallP.fE (h1) (by first | rfl | fail) (by first | (simp; done) | (simp; rfl) | fail) ?_; (try simp))
  | fail)
  (refine EndW.here ?_; (first | (refine EndOK.fin (.inr rfl) ?_) | (refine EndOK.fin (.inl rfl) ?_)); simp [zaG, zaf, Tryz.results127]; refine FinOK.here (by simp) ?_; try simp)
def chP (pos e : Int) : List PanicEntry := [{ v := .iface 105 (.agg #[.int .i64 pos, .int .i64 e]), recovered := false }]
def isP (l : List Tok) (ob : Ob) : Prop := ∃ q : Nat, ob = pOb l q
theorem zdF (l : List Tok) (p : Nat) (e : Int) (i nx : Nat) (hi : i < nx) :
  RetX Tryz.prog 42 [.ptr i 0, .u (.bool true), .u (.int .i64 e)] [(i, pOb l p)] nx (fun r o n => r = .val (.tup []) /\ o = [(i, pOb l p)] /\ n = nx) := by
 (refine RetX.of_bodyW Tryz.func42 rfl (by simp) fun Γ hn hpan => ?_); simp only [entry, ziC, ziN, maC, maN, oA, Tryz.ntmps42]
 repeat' (first
  | ((first | refine zae ?_ | refine zaj ?_ | refine zah ?_ | refine zai ?_ | fail); simp)
  | (refine zap ?_; simp only [zao])
  | fail)
 (refine EndW.here ?_; (first | (refine EndOK.fin (.inr rfl) ?_) | (refine EndOK.fin (.inl rfl) ?_)); simp [zaG, zaf, Tryz.results42]; refine FinOK.here (by simp) ?_; try simp)
theorem zcG (l : List Tok) (p : Nat) (t : Tok) (e : Int) (i nx : Nat) (hi : i < nx) (hp : l[p]? = some t) (hl : l.length <= 1000000) :
  RetX Tryz.prog 42 [.ptr i 0, .u (.bool false), .u (.int .i64 e)] [(i, pOb l p)] nx (fun r o n => r = .pan (chP t.pos e) /\ (∃ ob', isP l ob' /\ o = [(i, ob')]) /\ n = nx) := by
 have h1 := zbW l p t hp hl
 (refine RetX.of_bodyW Tryz.func42 rfl (by simp) fun Γ hn hpan => ?_); simp only [entry, ziC, ziN, maC, maN, oA, Tryz.ntmps42]
 repeat' (first
  | ((first | refine zae ?_ | refine zaj ?_ | refine zah ?_ | refine zai ?_ | refine zax ?_ | fail); simp)
  | (refine CallP.fE (h1) (by first | rfl | fail) (by first | (simp; done) | (simp; rfl) | fail) ?_; (try simp))
  | fail)
 all_goals
  (refine hpan _ _ ⟨{ n := _, env := [], obs := [(i, pOb l p)], next := nx }, (Wk.cut rfl (by simp [hn]) (by simp [wkO, zaa, getK, zab, zac, Ob.under, D.under, zad, zag, hi]) (by simp [wkU, zan, zaa, getK, D.under, hi]) (by simp [wkE, zan, zaa, getK, hi])), by simp [hn], ?_⟩; try simp)
  all_goals exact ⟨rfl, p, rfl⟩
inductive PR (α : Type) where
 | ok (a : α) (p : Nat)
 | stop (pos e : Int)
def zcR (l : List Tok) (p : Nat) : Int := match l[p]? with | some t => t.pos | none => 0
def zbt (l : List Tok) : Nat -> List (List UInt8) -> PR Unit
 | p, [] => .ok () p
 | p, w :: ws => if isB l p w = true then zbt l (p + 1) ws else .stop (zcR l p) 12
def PPost {α : Type} (l : List Tok) (i nx : Nat) (val : α -> D) : PR α -> Out -> List (Nat × Ob) -> Nat -> Prop
 | .ok a q, o, obs, n => o = .val (val a) /\ obs = [(i, pOb l q)] /\ n = nx
 | .stop pos e, o, obs, n => o = .pan (chP pos e) /\ (∃ ob', isP l ob' /\ obs = [(i, ob')]) /\ n = nx
theorem zh9 (l : List Tok) (p : Nat) (ws : List (List UInt8)) (i nx : Nat) (hi : i < nx) (hp : p < l.length) (hl : TokOK l) (hw : ws.length <= 100) :
  RetX Tryz.prog 83 [.ptr i 0, .u (.sl (ws.map fun w => [.str w]))] [(i, pOb l p)] nx (PPost l i nx (fun _ => .tup []) (zbt l p ws)) := by
 (refine RetX.of_bodyW Tryz.func83 rfl (by simp) fun Γ hn hpan => ?_); simp only [entry, ziC, ziN, maC, maN, oA, Tryz.ntmps83]
 repeat' (first
  | ((first | refine zae ?_ | refine zaj ?_ | refine zah ?_ | refine zaw ?_ | fail); simp)
  | fail)
 refine zdL (α := { x : Nat × Nat // x.1 <= ws.length /\ x.2 < l.length /\ zbt l p ws = zbt l x.2 (ws.drop x.1) }) [0, 6, 7] (fun x => [(8, .u (.int .i64 x.1.1))]) (fun x => [(i, pOb l x.1.2)]) nx (fun x => ws.length - x.1.1) ⟨(0, p), by simp, hp, by simp⟩ ?_ ?_
 ·exact (Wk.cut rfl (by simp [hn, St.lp]) (by simp [wkO, St.lp, zaa, getK, Ob.under, D.under, zad, zag, hi]) (by simp [wkU, St.lp, zan, zaa, getK, D.under, hi]) (by simp [wkE, St.lp, zan, zaa, getK, hi] <;> (try (intros; simp_all; done)) <;> (try (intros; omega)) <;> (try grind)))
 rintro ⟨⟨k, q⟩, h1, h2, h3⟩;simp only at h1 h2 h3;simp [St.lp, St.only, zan, zaa, getK];rcases hx : ws[k]? with _ | w
 ·have hge : ws.length <= k := by simpa using hx
  obtain rfl : k = ws.length := by omega
  rw [List.drop_length, zbt] at h3
  repeat' (first
  | ((first | refine zae ?_ | refine zaj ?_ | refine zah ?_ | fail); simp [hx])
  | (refine zbA ?_; simp [zao])
  | fail)
  rw [h3]
  (refine EndW.here ?_; (first | (refine EndOK.fin (.inr rfl) ?_) | (refine EndOK.fin (.inl rfl) ?_)); simp [zaG, zaf, Tryz.results83]; refine FinOK.here (by simp) ?_; try simp)
  simp [PPost]
 ·have hlt : k < ws.length := (lGE.1 hx).1;have hd : ws.drop k = w :: ws.drop (k + 1) := by
   obtain ⟨h5, h6⟩ := lGE.1 hx;rw [<- h6, List.getElem_cons_drop]
  rw [hd, zbt] at h3;have hh := zbk l q w i nx hi h2 hl.len;by_cases hb : isB l q w = true
  ·rw [if_pos hb] at h3;rw [hb, if_pos rfl] at hh;have hq := zbd hl hb;have hck := zdF l (q + 1) 12 i nx hi
   repeat' (first
  | ((first | refine zae ?_ | refine zaj ?_ | fail); simp [hx])
  | (refine ⟨by omega, ?_⟩)
  | ((first | refine zah ?_ | refine zax ?_ | fail); simp [hx])
  | (refine zap ?_; simp only [zao])
  | (refine ⟨?_, by omega⟩)
  | (intro hc <;> (try (exfalso; omega)))
  | (refine CallP.ok1 (hh) (by first | (simp [hx, zaa, getK, zab, zac]; done) | fail) (by rfl) (by rfl) ?_; (try simp [hx]))
  | (refine CallP.ok1 (hck) (by first | (simp [hx, zaa, getK, zab, zac]; done) | fail) (by rfl) (by rfl) ?_; (try simp [hx]))
  | fail)
   refine LoopW.next ⟨(k + 1, q + 1), by omega, hq, h3⟩ (by simp; omega) ?_
   exact (Wk.cut rfl (by simp [hn, St.lp]) (by simp [wkO, St.lp, zaa, getK, Ob.under, D.under, zad, zag, hi, zab, zac, zaa, getK]) (by simp [wkU, St.lp, zan, zaa, getK, D.under, hi, zab, zac, zaa, getK]) (by simp [wkE, St.lp, zan, zaa, getK, hi, zab, zac, zaa, getK] <;> (try (intros; simp_all; done)) <;> (try (intros; omega)) <;> (try grind)))
  ·have hb2 : isB l q w = false := by simpa using hb
   rw [if_neg hb] at h3;rw [hb2, if_neg (by simp)] at hh;obtain ⟨t, ht⟩ : ∃ t, l[q]? = some t := ⟨_, List.getElem?_eq_getElem h2⟩;have hck := zcG l q t 12 i nx hi ht hl.len
   repeat' (first
  | ((first | refine zae ?_ | refine zaj ?_ | refine zah ?_ | refine zax ?_ | fail); simp [hx])
  | (refine zap ?_; simp only [zao])
  | (refine ⟨?_, by omega⟩)
  | (intro hc <;> (try (exfalso; omega)))
  | (refine CallP.ok1 (hh) (by first | (simp [hx, zaa, getK, zab, zac]; done) | fail) (by rfl) (by rfl) ?_; (try simp [hx]))
  | (refine CallP.zei (hck) (by first | (simp [hx, zaa, getK, zab, zac]; done) | fail) (by rfl) (by first | assumption | (simp; done) | fail) (by rfl) (by simp) ?_; rintro ob' ⟨q', rfl⟩; refine ⟨_, Wk.refl _, ?_⟩)
  | fail)
   rw [h3] at hpan
   (refine hpan _ _ ⟨{ n := _, env := [], obs := [(i, pOb l q')], next := nx }, (Wk.cut rfl (by simp [hn]) (by simp [wkO, zaa, getK, zab, zac, Ob.under, D.under, zad, zag, hi, zab, zac, zaa, getK]) (by simp [wkU, zan, zaa, getK, D.under, hi, zab, zac, zaa, getK]) (by simp [wkE, zan, zaa, getK, hi, zab, zac, zaa, getK])), by simp [hn], ?_⟩; try simp)
   all_goals exact ⟨by simp [zcR, ht], ⟨_, ⟨q', rfl⟩, rfl⟩, rfl⟩
end Go.Proofs.YthnemhfamhnfjaaGreatDoor
namespace Go.Proofs.YthnemhfamhnfjaaGreatDoor
open Go Go.VL
def PR.bind {α β : Type} : PR α -> (α -> Nat -> PR β) -> PR β
 | .ok a p, f => f a p
 | .stop pos e, _ => .stop pos e
theorem PR.zat {α β : Type} {a : α} {p : Nat} {f : α -> Nat -> PR β} : (PR.ok a p).bind f = f a p := rfl
theorem PR.zaK {α β : Type} {pos e : Int} {f : α -> Nat -> PR β} : (PR.stop pos e : PR α).bind f = .stop pos e := rfl
theorem PR.zaD {α β : Type} {r : PR α} {f : α -> Nat -> PR β} {b : β} {q : Nat} (h : r.bind f = .ok b q) : ∃ a p, r = .ok a p /\ f a p = .ok b q := by
 cases r with
 | ok a p => exact ⟨a, p, rfl, h⟩
 | stop => cases h
theorem PPost.zcm {α : Type} {l i nx} {val : α -> D} {r : PR α} {a : α} {q : Nat} (h : r = .ok a q) {d : D} (hd : d = val a) {o : List (Nat × Ob)} (ho : o = [(i, pOb l q)]) : PPost l i nx val r (.val d) o nx := by
 subst h; subst hd; subst ho; exact ⟨rfl, rfl, rfl⟩
theorem PPost.zay {α : Type} {l i nx} {val : α -> D} {r : PR α} {pos e : Int} {q : Nat} (h : r = .stop pos e) : PPost l i nx val r (.pan (chP pos e)) [(i, pOb l q)] nx := by
 subst h; exact ⟨rfl, ⟨_, ⟨q, rfl⟩, rfl⟩, rfl⟩
structure Opr where
 text : List UInt8
 op : Int
 form : Int
def oprs : List Opr := [⟨[111, 114], 11, 1⟩, ⟨[97, 110, 100], 10, 2⟩, ⟨[61, 61], 9, 4⟩, ⟨[60], 8, 4⟩, ⟨[43], 2, 5⟩, ⟨[45], 3, 5⟩, ⟨[42], 4, 6⟩, ⟨[47], 5, 6⟩]
def zeL (l : List Tok) (p : Nat) : Option Opr := oprs.find? fun o => isB l p o.text
def zgC (l : List Tok) (p : Nat) : PR Int :=
 if isB l p [99, 111, 105, 110, 115] = true then .ok 3 (p + 1)
 else if isB l p [100, 97, 121, 115] = true then .ok 2 (p + 1)
 else if isB l p [112, 101, 114] = true then (zbt l (p + 1) [[109, 105, 108, 108, 101]]).bind fun _ q => .ok 4 q
 else .ok 1 p
mutual
def zc4 (l : List Tok) : Nat -> Nat -> Int -> PR Exp
 | 0, _, _ => .stop 0 0
 | f + 1, p, form => (zaZ l f p form).bind fun e q => zdc l f form e.1 e.2 q
def zdc (l : List Tok) : Nat -> Int -> Exp -> Int -> Nat -> PR Exp
 | 0, _, _, _, _ => .stop 0 0
 | f + 1, form, e, own, q => match zeL l q with
  | none => .ok e q
  | some x => if x.form < form \/ own < x.form \/ (own = 4 /\ x.form = 4) then .ok e q
   else (zc4 l f (q + 1) (x.form + 1)).bind fun e2 r => zdc l f form (.mk x.op 0 0 [] [e, e2]) x.form r
def zaZ (l : List Tok) : Nat -> Nat -> Int -> PR (Exp × Int)
 | 0, _, _ => .stop 0 0
 | f + 1, p, form =>
  if form = 0 /\ isB l p [105, 102] = true then
   (zc4 l f (p + 1) 0).bind fun a q1 => (zbt l q1 [[116, 104, 101, 110]]).bind fun _ q2 => (zc4 l f q2 0).bind fun b q3 =>
   (zbt l q3 [[101, 108, 115, 101]]).bind fun _ q4 => (zc4 l f q4 0).bind fun c q5 => .ok (.mk 13 0 0 [] [a, b, c], 0) q5
  else if form <= 3 /\ isB l p [110, 111, 116] = true then (zc4 l f (p + 1) 3).bind fun a q => .ok (.mk 12 0 0 [] [a], 3) q
  else (zaL l f p).bind fun e q => .ok (e, 7) q
def zaL (l : List Tok) : Nat -> Nat -> PR Exp
 | 0, _ => .stop 0 0
 | f + 1, p => match l[p]? with
  | none => .stop 0 0
  | some t =>
   if t.kind = 2 then (zgC l (p + 1)).bind fun u q => .ok (.mk 0 t.n u [] []) q
   else if isB l p [116, 114, 117, 101] = true then .ok (.mk 0 1 0 [] []) (p + 1)
   else if isB l p [102, 97, 108, 115, 101] = true then .ok (.mk 0 0 0 [] []) (p + 1)
   else if isB l p [109, 105, 110] = true \/ isB l p [109, 97, 120] = true then
    (zbt l (p + 1) [[40]]).bind fun _ q1 => (zc4 l f q1 0).bind fun a q2 => (zbt l q2 [[44]]).bind fun _ q3 => (zc4 l f q3 0).bind fun b q4 =>
    (zbt l q4 [[41]]).bind fun _ q5 => .ok (.mk (if isB l p [109, 97, 120] = true then 7 else 6) 0 0 [] [a, b]) q5
   else if isB l p [40] = true then (zc4 l f (p + 1) 0).bind fun e q1 => (zbt l q1 [[41]]).bind fun _ q2 => .ok e q2
   else if t.kind = 1 /\ zbO t.text = true then .ok (.mk 1 0 0 t.text []) (p + 1)
   else .stop t.pos 12
end
theorem za2 {l : List Tok} (hl : TokOK l) : ∀ (ws : List (List UInt8)) {p q : Nat}, zbt l p ws = .ok () q -> p < l.length -> p <= q /\ q < l.length
 | [], p, q, h, hp => by rw [zbt] at h; cases h; exact ⟨Nat.le_refl _, hp⟩
 | w :: ws, p, q, h, hp => by
  rw [zbt] at h;split at h
  ·rename_i hb;have := za2 hl ws h (zbd hl hb);exact ⟨by omega, this.2⟩
  ·cases h
theorem zoM {l : List Tok} (hl : TokOK l) {p q : Nat} {u : Int} (h : zgC l p = .ok u q) (hp : p < l.length) : p <= q /\ q < l.length := by
 unfold zgC at h;split at h
 ·rename_i hb; cases h; exact ⟨by omega, zbd hl hb⟩
 ·split at h
  ·rename_i hb; cases h; exact ⟨by omega, zbd hl hb⟩
  ·split at h
   ·rename_i hb;obtain ⟨a, r, h1, h2⟩ := PR.zaD h;cases h2;have := za2 hl _ h1 (zbd hl hb);exact ⟨by omega, this.2⟩
   ·cases h; exact ⟨by omega, hp⟩
theorem zce {l : List Tok} (hl : TokOK l) : ∀ (f : Nat),
  (∀ p form e q, zc4 l f p form = .ok e q -> p < l.length -> p <= q /\ q < l.length) /\
  (∀ form e own p e' q, zdc l f form e own p = .ok e' q -> p < l.length -> p <= q /\ q < l.length) /\
  (∀ p form e q, zaZ l f p form = .ok e q -> p < l.length -> p <= q /\ q < l.length) /\
  (∀ p e q, zaL l f p = .ok e q -> p < l.length -> p <= q /\ q < l.length)
 | 0 => ⟨fun _ _ _ _ h => by simp [zc4] at h, fun _ _ _ _ _ _ h => by simp [zdc] at h, fun _ _ _ _ h => by simp [zaZ] at h, fun _ _ _ h => by simp [zaL] at h⟩
 | f + 1 => by
  obtain ⟨he, hlo, hpr, hpm⟩ := zce hl f;refine ⟨fun p form e q h hp => ?_, fun form e own p e' q h hp => ?_, fun p form e q h hp => ?_, fun p e q h hp => ?_⟩
  ·rw [zc4] at h;obtain ⟨a, r, h1, h2⟩ := PR.zaD h;have g1 := hpr _ _ _ _ h1 hp;have g2 := hlo _ _ _ _ _ _ h2 g1.2;exact ⟨by omega, g2.2⟩
  ·rw [zdc] at h;split at h
   ·cases h; exact ⟨by omega, hp⟩
   ·rename_i x hx;have hb := List.find?_some hx;have hp2 := zbd hl hb;split at h
    ·cases h; exact ⟨by omega, hp⟩
    ·obtain ⟨a, r, h1, h2⟩ := PR.zaD h;have g1 := he _ _ _ _ h1 hp2;have g2 := hlo _ _ _ _ _ _ h2 g1.2;exact ⟨by omega, g2.2⟩
  ·rw [zaZ] at h;split at h
   ·rename_i hb;have hp2 := zbd hl hb.2;obtain ⟨a, r, h1, h⟩ := PR.zaD h;have g1 := he _ _ _ _ h1 hp2;obtain ⟨_, r2, h2, h⟩ := PR.zaD h;have g2 := za2 hl _ h2 g1.2;obtain ⟨a, r3, h3, h⟩ := PR.zaD h;have g3 := he _ _ _ _ h3 g2.2;obtain ⟨_, r4, h4, h⟩ := PR.zaD h;have g4 := za2 hl _ h4 g3.2;obtain ⟨a, r5, h5, h⟩ := PR.zaD h;have g5 := he _ _ _ _ h5 g4.2;cases h;exact ⟨by omega, g5.2⟩
   ·split at h
    ·rename_i hb;have hp2 := zbd hl hb.2;obtain ⟨a, r, h1, h⟩ := PR.zaD h;have g1 := he _ _ _ _ h1 hp2;cases h;exact ⟨by omega, g1.2⟩
    ·obtain ⟨a, r, h1, h⟩ := PR.zaD h;have g1 := hpm _ _ _ h1 hp;cases h;exact g1
  ·rw [zaL] at h;split at h
   ·cases h
   ·rename_i t ht;split at h
    ·rename_i hk;have hp2 := hl.fin p t ht (by omega);obtain ⟨a, r, h1, h⟩ := PR.zaD h;have g1 := zoM hl h1 hp2;cases h;exact ⟨by omega, g1.2⟩
    split at h
    ·rename_i hb; cases h; exact ⟨by omega, zbd hl hb⟩
    split at h
    ·rename_i hb; cases h; exact ⟨by omega, zbd hl hb⟩
    split at h
    ·rename_i hb;have hp2 : p + 1 < l.length := hb.elim (zbd hl) (zbd hl);obtain ⟨_, r2, h2, h⟩ := PR.zaD h;have g2 := za2 hl _ h2 hp2;obtain ⟨a, r3, h3, h⟩ := PR.zaD h;have g3 := he _ _ _ _ h3 g2.2;obtain ⟨_, r4, h4, h⟩ := PR.zaD h;have g4 := za2 hl _ h4 g3.2;obtain ⟨a, r5, h5, h⟩ := PR.zaD h;have g5 := he _ _ _ _ h5 g4.2;obtain ⟨_, r6, h6, h⟩ := PR.zaD h;have g6 := za2 hl _ h6 g5.2;cases h;exact ⟨by omega, g6.2⟩
    split at h
    ·rename_i hb;have hp2 := zbd hl hb;obtain ⟨a, r3, h3, h⟩ := PR.zaD h;have g3 := he _ _ _ _ h3 hp2;obtain ⟨_, r4, h4, h⟩ := PR.zaD h;have g4 := za2 hl _ h4 g3.2;cases h;exact ⟨by omega, g4.2⟩
    split at h
    ·rename_i hk;cases h;exact ⟨by omega, hl.fin p t ht (by omega)⟩
    ·cases h
end Go.Proofs.YthnemhfamhnfjaaGreatDoor
namespace Go.Proofs.YthnemhfamhnfjaaGreatDoor
open Go Go.VL
abbrev W8 := List UInt8
def zeY : W8 -> Int
 | [] => 0
 | c :: _ => if zbl c = true then 1 else if zaM c = true then 2 else 3
theorem zpf {w : W8} (h : w ≠ []) : zeY w ≠ 0 := by
 cases w with
 | nil => exact absurd rfl h
 | cons c w => rw [zeY]; split <;> (try split) <;> decide
def zoG (w : W8) : Int := if zeY w = 2 then (zem w).getD 0 else 0
def Reads (l : List Tok) (p : Nat) (ws : List W8) : Prop := ∀ i w, ws[i]? = some w -> w ≠ [] /\ ∃ t, l[p + i]? = some t /\ t.text = w /\ t.kind = zeY w /\ t.n = zoG w
theorem Reads.left {l p} {a b : List W8} (h : Reads l p (a ++ b)) : Reads l p a := fun i w hi => h i w (by rw [List.getElem?_append_left (lGE.1 hi).1]; exact hi)
theorem Reads.right {l p} {a b : List W8} (h : Reads l p (a ++ b)) : Reads l (p + a.length) b := fun i w hi => by
 have := h (a.length + i) w (by rw [List.getElem?_append_right (by omega), Nat.add_sub_cancel_left]; exact hi)
 rwa [<- nAA] at this
theorem Reads.head {l p} {w : W8} {b : List W8} (h : Reads l p (w :: b)) : w ≠ [] /\ ∃ t, l[p]? = some t /\ t.text = w /\ t.kind = zeY w /\ t.n = zoG w := h 0 w rfl
theorem Reads.tail {l p} {w : W8} {b : List W8} (h : Reads l p (w :: b)) : Reads l (p + 1) b := Reads.right (a := [w]) h
theorem Reads.isB {l p} {w : W8} {b : List W8} (h : Reads l p (w :: b)) (v : W8) : isB l p v = decide (w = v) := by
 obtain ⟨hw, t, ht, h1, h2, h3⟩ := h.head;have := zpf hw;simp [Go.Proofs.YthnemhfamhnfjaaGreatDoor.isB, ht, h1, h2, this]
theorem Reads.want {l p} {w : W8} {b : List W8} (h : Reads l p (w :: b)) : zbt l p [w] = .ok () (p + 1) := by
 rw [zbt, if_pos (by rw [h.isB]; simp), zbt]
theorem Reads.opr {l p} {w : W8} {b : List W8} (h : Reads l p (w :: b)) : zeL l p = oprs.find? fun o => decide (w = o.text) := by
 unfold zeL
 congr 1
 exact funext fun o => h.isB o.text
def Ev {α : Type} (g : Nat -> PR α) (r : PR α) : Prop := ∃ f0, ∀ f, f0 <= f -> g f = r
theorem Ev.succ {α : Type} {g : Nat -> PR α} {r : PR α} (h : Ev (fun f => g (f + 1)) r) : Ev g r := by
 obtain ⟨f0, h⟩ := h;refine ⟨f0 + 1, fun f hf => ?_⟩;obtain ⟨f, rfl⟩ : ∃ k, f = k + 1 := ⟨f - 1, by omega⟩;exact h f (by omega)
theorem Ev.const {α : Type} {r : PR α} : Ev (fun _ => r) r := ⟨0, fun _ _ => rfl⟩
theorem Ev.of {α : Type} {g : Nat -> PR α} {r : PR α} (h : ∀ f, g f = r) : Ev g r := ⟨0, fun f _ => h f⟩
theorem Ev.bind {α β : Type} {g : Nat -> PR α} {a : α} {q : Nat} {F : Nat -> α -> Nat -> PR β} {r : PR β} (h : Ev g (.ok a q)) (h2 : Ev (fun f => F f a q) r) : Ev (fun f => (g f).bind (F f)) r := by
 obtain ⟨f0, h⟩ := h;obtain ⟨f1, h2⟩ := h2;refine ⟨max f0 f1, fun f hf => ?_⟩;show (g f).bind (F f) = r;rw [h f (by omega), PR.zat];exact h2 f (by omega)
theorem Ev.exp {l p form} {e : Exp} {own : Int} {q : Nat} {r} (h : Ev (fun f => zaZ l f p form) (.ok (e, own) q)) (h2 : Ev (fun f => zdc l f form e own q) r) : Ev (fun f => zc4 l f p form) r := by
 refine Ev.succ ?_;simp only [zc4];exact Ev.bind h h2
def zbZ (op : Int) : Int := if op = 13 then 0 else if op = 12 then 3 else match oprs.find? (fun o => decide (o.op = op)) with | some o => o.form | none => 7
def zdh (n u : Int) : List W8 :=
 if u = 0 then [if n = 1 then [116, 114, 117, 101] else [102, 97, 108, 115, 101]]
 else Lib.itoa n :: (if u = 3 then [[99, 111, 105, 110, 115]] else if u = 2 then [[100, 97, 121, 115]] else if u = 4 then [[112, 101, 114], [109, 105, 108, 108, 101]] else [])
def zoF (x : Int × List W8) (least : Int) : List W8 := if x.1 < least then [40] :: x.2 ++ [[41]] else x.2
def zmV (ws : List (Int × List W8)) (i : Nat) (least : Int) : List W8 := match ws[i]? with | some x => zoF x least | none => []
def zcJ (op n u : Int) (s : W8) (ws : List (Int × List W8)) : List W8 :=
 if op = 0 then zdh n u else if op = 1 then [s]
 else if op = 13 then [105, 102] :: zmV ws 0 0 ++ [116, 104, 101, 110] :: zmV ws 1 0 ++ [101, 108, 115, 101] :: zmV ws 2 0
 else if op = 12 then [110, 111, 116] :: zmV ws 0 3
 else if op = 6 then [109, 105, 110] :: [40] :: zmV ws 0 0 ++ [44] :: zmV ws 1 0 ++ [[41]]
 else if op = 7 then [109, 97, 120] :: [40] :: zmV ws 0 0 ++ [44] :: zmV ws 1 0 ++ [[41]]
 else match oprs.find? (fun o => decide (o.op = op)) with
  | some o => zmV ws 0 (if o.form = 4 then 5 else o.form) ++ o.text :: zmV ws 1 (o.form + 1)
  | none => []
mutual
def zaV : Exp -> List W8
 | .mk op n u s args => zcJ op n u s (zkZ args)
def zkZ : List Exp -> List (Int × List W8)
 | [] => []
 | .mk op n u s args :: l => (zbZ op, zcJ op n u s (zkZ args)) :: zkZ l
end
theorem zkh : ∀ l : List Exp, zkZ l = l.map fun e => (zbZ e.op, zaV e)
 | [] => by simp [zkZ]
 | .mk op n u s args :: l => by rw [zkZ, List.map_cons, zkh l]; simp [zaV, Exp.op]
def zaS (e : Exp) (least : Int) : List W8 := zoF (zbZ e.op, zaV e) least
def zoW (e : Exp) (least : Int) : Int := if zbZ e.op < least then 7 else zbZ e.op
theorem zbN {args : List Exp} {i : Nat} {a : Exp} (h : args[i]? = some a) (least : Int) : zmV (zkZ args) i least = zaS a least := by
 rw [zmV, zkh, List.getElem?_map, h]; rfl
end Go.Proofs.YthnemhfamhnfjaaGreatDoor
namespace Go.Proofs.YthnemhfamhnfjaaGreatDoor
open Go Go.VL
theorem zfa {o : Opr} (h : o ∈ oprs) : 1 <= o.form /\ o.form <= 6 /\ o.form ≠ 3 := by
 simp only [oprs, List.mem_cons, List.mem_nil_iff, or_false] at h;rcases h with rfl | rfl | rfl | rfl | rfl | rfl | rfl | rfl <;> decide
theorem zmb {op : Int} {o : Opr} (h : oprs.find? (fun o => decide (o.op = op)) = some o) : o.op = op /\ o ∈ oprs := by
 have h1 := List.find?_some h;exact ⟨by simpa using h1, List.mem_of_find?_eq_some h⟩
theorem zoX {o : Opr} (h : o ∈ oprs) : oprs.find? (fun x => decide (o.text = x.text)) = some o := by
 simp only [oprs, List.mem_cons, List.mem_nil_iff, or_false] at h;rcases h with rfl | rfl | rfl | rfl | rfl | rfl | rfl | rfl <;> rfl
theorem znt {o : Opr} (h : o ∈ oprs) : o.text ≠ [99, 111, 105, 110, 115] /\ o.text ≠ [100, 97, 121, 115] /\ o.text ≠ [112, 101, 114] := by
 simp only [oprs, List.mem_cons, List.mem_nil_iff, or_false] at h;rcases h with rfl | rfl | rfl | rfl | rfl | rfl | rfl | rfl <;> decide
theorem zhd (op : Int) : 0 <= zbZ op /\ zbZ op <= 7 := by
 unfold zbZ;split
 ·decide
 ·split
  ·decide
  ·split
   ·rename_i o h;have := zfa (zmb h).2;omega
   ·decide
def zks (l : List Tok) (q : Nat) : Prop := isB l q [99, 111, 105, 110, 115] = false /\ isB l q [100, 97, 121, 115] = false /\ isB l q [112, 101, 114] = false
theorem Reads.noUnit {l p} {w : W8} {b : List W8} (h : Reads l p (w :: b)) (h1 : w ≠ [99, 111, 105, 110, 115]) (h2 : w ≠ [100, 97, 121, 115]) (h3 : w ≠ [112, 101, 114]) : zks l p := by
 refine ⟨?_, ?_, ?_⟩ <;> rw [h.isB] <;> simp [*]
def zmU (l : List Tok) (e : Exp) : Prop := ∀ least form p r, 0 <= form -> form <= least -> least <= 7 -> Reads l p (zaS e least) -> zks l (p + (zaS e least).length) ->
 (∀ x, zeL l (p + (zaS e least).length) = some x -> x.form <= zoW e least) -> Ev (fun f => zdc l f form e (zoW e least) (p + (zaS e least).length)) r -> Ev (fun f => zc4 l f p form) r
def zqU (l : List Tok) (e : Exp) : Prop := ∀ form p r, 0 <= form -> form <= zbZ e.op -> Reads l p (zaV e) -> zks l (p + (zaV e).length) ->
 (∀ x, zeL l (p + (zaV e).length) = some x -> x.form <= zbZ e.op) -> Ev (fun f => zdc l f form e (zbZ e.op) (p + (zaV e).length)) r -> Ev (fun f => zc4 l f p form) r
theorem zlk {l : List Tok} {q : Nat} {form own : Int} {e : Exp} (h : ∀ x, zeL l q = some x -> x.form < form) : Ev (fun f => zdc l f form e own q) (.ok e q) := by
 refine Ev.succ (Ev.of fun f => ?_);rw [zdc];rcases hx : zeL l q with _ | x
 ·rfl
 ·have := h x hx;simp only;rw [if_pos (.inl this)]
theorem zjL {l : List Tok} {e : Exp} (hb : zqU l e) : zmU l e := by
 intro least form p r h0 h1 h7 hr hu hf hk;by_cases hlt : zbZ e.op < least
 ·have hs : zaS e least = [40] :: zaV e ++ [[41]] := by rw [zaS, zoF, if_pos hlt]
  have ho : zoW e least = 7 := by rw [zoW, if_pos hlt]
  rw [hs] at hr hu hf hk;rw [ho] at hk;have hr2 : Reads l (p + 1) (zaV e ++ [[41]]) := Reads.tail hr;have hr3 : Reads l (p + 1 + (zaV e).length) [[41]] := hr2.right;have hlen : p + ([40] :: zaV e ++ [[41]]).length = p + 1 + (zaV e).length + 1 := by simp; omega
  rw [hlen] at hk;obtain ⟨_, t, ht, t1, t2, t3⟩ := Reads.head (b := zaV e ++ [[41]]) hr;have hi : ∀ v, isB l p v = decide ([40] = v) := fun v => Reads.isB (b := zaV e ++ [[41]]) hr v;have hopn : zeL l (p + 1 + (zaV e).length) = none := by rw [hr3.opr]; rfl
  refine Ev.exp (e := e) (own := 7) (q := p + 1 + (zaV e).length + 1) ?_ hk;refine Ev.succ ?_;have e1 : ∀ f, zaZ l (f + 1) p form = (zaL l f p).bind fun e q => .ok (e, 7) q := fun f => by
   rw [zaZ, hi, hi]; simp
  simp only [e1];refine Ev.bind (a := e) (q := p + 1 + (zaV e).length + 1) ?_ Ev.const;refine Ev.succ ?_;have hkd : t.kind = 3 := by rw [t2]; decide
  have e2 : ∀ f, zaL l (f + 1) p = (zc4 l f (p + 1) 0).bind fun e q1 => (zbt l q1 [[41]]).bind fun _ q2 => .ok e q2 := fun f => by
   rw [zaL, ht]; simp [hi, hkd]
  simp only [e2];refine Ev.bind (a := e) (q := p + 1 + (zaV e).length) ?_ ?_
  ·refine hb 0 (p + 1) _ (Int.le_refl _) (zhd _).1 hr2.left (hr3.noUnit (by decide) (by decide) (by decide)) (fun x hx => ?_) (zlk fun x hx => ?_)
   all_goals rw [hopn] at hx; cases hx
  ·rw [hr3.want];exact Ev.of fun _ => rfl
 ·have hs : zaS e least = zaV e := by rw [zaS, zoF, if_neg hlt]
  have ho : zoW e least = zbZ e.op := by rw [zoW, if_neg hlt]
  rw [hs] at hr hu hf hk;rw [ho] at hf hk;exact hb form p r h0 (by omega) hr hu hf hk
theorem zp0 {e : Exp} {least : Int} (h : least <= 7) : least <= zoW e least := by
 unfold zoW; split <;> omega
theorem zkl {l : List Tok} {a : Exp} (h : zmU l a) {least : Int} {p : Nat} (h0 : 0 <= least) (h7 : least <= 7) (hr : Reads l p (zaS a least)) (hu : zks l (p + (zaS a least).length))
  (hs : ∀ x, zeL l (p + (zaS a least).length) = some x -> x.form < least) : Ev (fun f => zc4 l f p least) (.ok a (p + (zaS a least).length)) :=
 h least least p _ h0 (Int.le_refl _) h7 hr hu (fun x hx => by have := hs x hx; have := zp0 (e := a) h7; omega) (zlk hs)
theorem zgv {l : List Tok} {a : Exp} (h : zmU l a) {least : Int} {p : Nat} {w : W8} {b : List W8} (h0 : 0 <= least) (h7 : least <= 7) (hr : Reads l p (zaS a least ++ w :: b))
  (h1 : w ≠ [99, 111, 105, 110, 115]) (h2 : w ≠ [100, 97, 121, 115]) (h3 : w ≠ [112, 101, 114]) (ho : oprs.find? (fun o => decide (w = o.text)) = none) :
  Ev (fun f => zc4 l f p least) (.ok a (p + (zaS a least).length)) :=
 zkl h h0 h7 hr.left (hr.right.noUnit h1 h2 h3) fun x hx => by rw [hr.right.opr, ho] at hx; cases hx
end Go.Proofs.YthnemhfamhnfjaaGreatDoor
namespace Go.Proofs.YthnemhfamhnfjaaGreatDoor
open Go Go.VL
theorem zga : ∀ n, Lib.decDigits n ≠ [] := fun n => by
 rw [Lib.decDigits]; split <;> simp
theorem zdt (n : Nat) : ∀ c ∈ Lib.decDigits n, zaM c = true := by
 induction n using Nat.strongRecOn with
 | _ n ih =>
  intro c hc;have hd : ∀ k, k < 10 -> zaM (UInt8.ofNat (48 + k)) = true := by decide
  rw [Lib.decDigits] at hc;split at hc
  ·rename_i h;simp only [List.mem_singleton] at hc;subst hc;exact hd n h
  ·rename_i h;rw [List.mem_append, List.mem_singleton] at hc;rcases hc with hc | rfl
   ·exact ih _ (by omega) c hc
   ·exact hd _ (by omega)
theorem ziL (n : Nat) : zbc (Lib.decDigits n) = n := by
 induction n using Nat.strongRecOn with
 | _ n ih =>
  have hd : ∀ k, k < 10 -> ((UInt8.ofNat (48 + k)).toNat : Int) - 48 = k := by decide
  rw [Lib.decDigits];split
  ·rename_i h;simpa [zbc] using hd n h
  ·rename_i h;rw [zdE, ih _ (by omega), hd _ (by omega)];omega
theorem zhA (n : Nat) : (Lib.decDigits n).head? = some 48 -> n = 0 := by
 induction n using Nat.strongRecOn with
 | _ n ih =>
  have hd : ∀ k, k < 10 -> UInt8.ofNat (48 + k) = 48 -> k = 0 := by decide
  rw [Lib.decDigits];split
  ·rename_i h;intro he;exact hd n h (by simpa using he)
  ·rename_i h;intro he;have he2 : (Lib.decDigits (n / 10)).head? = some 48 := by
    have hne := zga (n / 10)
    revert he hne
    cases Lib.decDigits (n / 10) with
    | nil => intro _ h; exact absurd rfl h
    | cons a r => intro he _; simpa using he
   have := ih _ (by omega) he2;omega
theorem zfp (n : Nat) : ∀ k, n < 10 ^ (k + 1) -> (Lib.decDigits n).length <= k + 1 := by
 induction n using Nat.strongRecOn with
 | _ n ih =>
  intro k hk;rw [Lib.decDigits];split
  ·simp
  ·rename_i h;obtain ⟨k, rfl⟩ : ∃ j, k = j + 1 := ⟨k - 1, by cases k with | zero => simp at hk; omega | succ k => rfl⟩;have := ih (n / 10) (by omega) k (by rw [Nat.pow_succ] at hk; omega);simp;omega
theorem zih {p : UInt8 -> Bool} {l : List UInt8} (h : ∀ c ∈ l, p c = true) : l.takeWhile p = l := by
 induction l with
 | nil => rfl
 | cons a l ih => rw [List.takeWhile_cons, if_pos (h a (by simp)), ih fun c hc => h c (by simp [hc])]
theorem zgt {n : Int} (h0 : 0 <= n) (h1 : n <= 1099511627776) : zeY (Lib.itoa n) = 2 /\ zem (Lib.itoa n) = some n /\ Lib.itoa n ≠ [] := by
 have hi : Lib.itoa n = Lib.decDigits n.toNat := by rw [Lib.itoa, if_neg (by omega)]
 rw [hi];have hne := zga n.toNat;have hd := zdt n.toNat;have hlt : n.toNat < 10 ^ (12 + 1) := by
  have : (10 : Nat) ^ 13 = 10000000000000 := by decide
  omega
 have hlen := zfp n.toNat 12 hlt;have hv := ziL n.toNat;have hh := zhA n.toNat;refine ⟨?_, ?_, hne⟩
 ·have h3 : ∀ c, zaM c = true -> zbl c = false := fun c h => by
   simp only [zaM, zbl, Bool.and_eq_true, decide_eq_true_eq, Bool.and_eq_false_iff, decide_eq_false_iff_not] at h ⊢;omega
  cases hc : Lib.decDigits n.toNat with
  | nil => exact absurd hc hne
  | cons c r =>
   have h4 := hd c (by rw [hc]; simp);rw [zeY, h3 c h4, h4]; rfl
 ·unfold zem;have hsp : zbE zaM (Lib.decDigits n.toNat) = (Lib.decDigits n.toNat).length := by rw [zbE, zih hd]
  rw [if_neg, hv, if_neg (by omega)]
  ·rw [Int.toNat_of_nonneg h0]
  ·simp only [not_or];refine ⟨hne, fun h => h hsp, fun h => ?_, by omega⟩;have := hh h.1;rw [this] at h;exact h.2 (by rw [Lib.decDigits]; rfl)
end Go.Proofs.YthnemhfamhnfjaaGreatDoor
namespace Go.Proofs.YthnemhfamhnfjaaGreatDoor
open Go Go.VL
theorem Ev.zrD {l : List Tok} {p : Nat} {form : Int} {e : Exp} {q : Nat} (h : Ev (fun f => zaL l (f + 1) p) (.ok e q)) (hif : ∀ f, zaZ l (f + 1) p form = (zaL l f p).bind fun e q => .ok (e, 7) q) :
  Ev (fun f => zaZ l f p form) (.ok (e, 7) q) := by
 refine Ev.succ ?_;simp only [hif];exact Ev.bind (Ev.succ h) Ev.const
theorem zgU {n u : Int} (h : zo2 (.mk 0 n u [] []) = true) : 0 <= u /\ u < 5 /\ 0 <= n /\ n <= 1099511627776 /\ (u = 0 -> n <= 1) := by
 have h2 : (decide (([] : List UInt8) = []) && decide (0 <= u) && decide (u < 5) && decide (0 <= n) && decide (n <= if u = 0 then 1 else 1099511627776)) = true := h;simp only [Bool.and_eq_true, decide_eq_true_eq] at h2;obtain ⟨⟨⟨⟨_, a⟩, b⟩, c⟩, d⟩ := h2;split at d
 ·exact ⟨a, b, c, by omega, fun _ => d⟩
 ·rename_i hz;exact ⟨a, b, c, d, fun h => absurd h hz⟩
theorem zpH {l : List Tok} {n u : Int} (hn : zo2 (.mk 0 n u [] []) = true) : zqU l (.mk 0 n u [] []) := by
 intro form p r h0 h1 hr hu hf hk;have hF : zbZ (Exp.mk 0 n u [] []).op = 7 := rfl;rw [hF] at hk;obtain ⟨hu0, hu1, hn0, hn2, hn1⟩ := zgU hn;have hb : zaV (.mk 0 n u [] []) = zdh n u := by rw [zaV, zcJ, if_pos rfl]
 rw [hb] at hr hk hu;refine Ev.exp (e := .mk 0 n u [] []) (own := 7) (q := p + (zdh n u).length) ?_ hk;by_cases hz : u = 0
 ·subst hz;have hn1 := hn1 rfl;have hw : zdh n 0 = [if n = 1 then [116, 114, 117, 101] else [102, 97, 108, 115, 101]] := by rw [zdh, if_pos rfl]
  rw [hw] at hr ⊢;obtain ⟨_, t, ht, t1, t2, t3⟩ := hr.head;have hi := fun v => hr.isB v;refine Ev.zrD ?_ fun f => ?_
  ·refine Ev.of fun f => ?_;have hkd : t.kind = 1 := by rw [t2]; split <;> decide
   rw [zaL, ht];simp only [hi, hkd];by_cases h1 : n = 1
   ·subst h1; simp
   ·have : n = 0 := by omega
    subst this; simp
  ·rw [zaZ, hi, hi];by_cases h1 : n = 1 <;> simp [h1]
 ·obtain ⟨k1, k2, k3⟩ := zgt hn0 hn2;have hw : zdh n u = Lib.itoa n :: (if u = 3 then [[99, 111, 105, 110, 115]] else if u = 2 then [[100, 97, 121, 115]] else if u = 4 then [[112, 101, 114], [109, 105, 108, 108, 101]] else []) := by rw [zdh, if_neg hz]
  rw [hw] at hr hu ⊢;obtain ⟨_, t, ht, t1, t2, t3⟩ := hr.head;rw [k1] at t2;rw [zoG, if_pos k1, k2] at t3;simp only [Option.getD_some] at t3;have hi : ∀ v, zeY v ≠ 2 -> isB l p v = false := fun v hv => by
   rw [hr.isB];exact decide_eq_false fun h => hv (h ▸ k1)
  have hunit : zgC l (p + 1) = .ok u (p + (Lib.itoa n :: (if u = 3 then [[99, 111, 105, 110, 115]] else if u = 2 then [[100, 97, 121, 115]] else if u = 4 then [[112, 101, 114], [109, 105, 108, 108, 101]] else [])).length) := by
   have hr2 := hr.tail;have hcases : u = 1 \/ u = 2 \/ u = 3 \/ u = 4 := by omega
   rcases hcases with rfl | rfl | rfl | rfl
   ·simp only [List.length_singleton, show ((1 : Int) = 3) = False by simp, show ((1 : Int) = 2) = False by simp, show ((1 : Int) = 4) = False by simp, if_false] at hu ⊢;rw [zgC, hu.1, hu.2.1, hu.2.2]; rfl
   ·simp only [show ((2 : Int) = 3) = False by simp, if_false, if_true] at hr2 ⊢;rw [zgC, hr2.isB, hr2.isB]; rfl
   ·simp only [if_true] at hr2 ⊢;rw [zgC, hr2.isB]; rfl
   ·simp only [show ((4 : Int) = 3) = False by simp, show ((4 : Int) = 2) = False by simp, if_false, if_true] at hr2 ⊢;rw [zgC, hr2.isB, hr2.isB, hr2.isB, hr2.tail.want]; rfl
  refine Ev.zrD ?_ fun f => ?_
  ·refine Ev.of fun f => ?_;rw [zaL, ht];simp only [t2, t3, if_true, hunit];rfl
  ·rw [zaZ, hi _ (by decide), hi _ (by decide)]; simp
theorem zot {l : List Tok} {s : W8} (hn : zbO s = true) : zqU l (.mk 1 0 0 s []) := by
 intro form p r h0 h1 hr hu hf hk;have hF : zbZ (Exp.mk 1 0 0 s []).op = 7 := rfl;rw [hF] at hk;have hb : zaV (.mk 1 0 0 s []) = [s] := by rw [zaV, zcJ, if_neg (by decide), if_pos rfl]
 rw [hb] at hr hk;refine Ev.exp (e := .mk 1 0 0 s []) (own := 7) (q := p + 1) ?_ hk;obtain ⟨_, t, ht, t1, t2, t3⟩ := hr.head;have hi : ∀ v, zbO v = false -> isB l p v = false := fun v hv => by
  rw [hr.isB];exact decide_eq_false fun h => by rw [<- h, hn] at hv; cases hv
 have hkd : t.kind = 1 := by
  rw [t2];cases s with
  | nil => simp [zbO, zeU] at hn
  | cons c r =>
   simp only [zbO, zeU, Bool.and_eq_true] at hn;rw [zeY, if_pos hn.1.1.1]
 refine Ev.zrD ?_ fun f => ?_
 ·refine Ev.of fun f => ?_;rw [zaL, ht];simp only [hi _ (show zbO [116, 114, 117, 101] = false by decide), hi _ (show zbO [102, 97, 108, 115, 101] = false by decide), hi _ (show zbO [109, 105, 110] = false by decide), hi _ (show zbO [109, 97, 120] = false by decide), hi _ (show zbO [40] = false by decide), hkd, t1, hn];simp
 ·rw [zaZ, hi _ (show zbO [105, 102] = false by decide), hi _ (show zbO [110, 111, 116] = false by decide)]; simp
end Go.Proofs.YthnemhfamhnfjaaGreatDoor
namespace Go.Proofs.YthnemhfamhnfjaaGreatDoor
open Go Go.VL
theorem zqE {l : List Tok} {a b c : Exp} (ha : zmU l a) (hb : zmU l b) (hc : zmU l c) : zqU l (.mk 13 0 0 [] [a, b, c]) := by
 intro form p r h0 h1 hr hu hf hk;have hF : zbZ (Exp.mk 13 0 0 [] [a, b, c]).op = 0 := rfl;rw [hF] at hk h1 hf;obtain rfl : form = 0 := by omega
 have hw : zaV (.mk 13 0 0 [] [a, b, c]) = [105, 102] :: (zaS a 0 ++ [116, 104, 101, 110] :: (zaS b 0 ++ [101, 108, 115, 101] :: zaS c 0)) := by
  rw [zaV, zcJ, if_neg (by decide), if_neg (by decide), if_pos rfl, zbN (a := a) rfl, zbN (a := b) rfl, zbN (a := c) rfl];simp
 rw [hw] at hr hk hu hf;have r0 := hr.tail;have r1 := r0.right;have r2 := r1.tail;have r3 := r2.right;have r4 := r3.tail;have hlen : p + ([105, 102] :: (zaS a 0 ++ [116, 104, 101, 110] :: (zaS b 0 ++ [101, 108, 115, 101] :: zaS c 0))).length = p + 1 + (zaS a 0).length + 1 + (zaS b 0).length + 1 + (zaS c 0).length := by simp; omega
 rw [hlen] at hk hu hf;have hno : ∀ x, zeL l (p + 1 + (zaS a 0).length + 1 + (zaS b 0).length + 1 + (zaS c 0).length) = some x -> x.form < 0 := fun x hx => by
  have h1 := hf x hx;have h2 := zfa (List.mem_of_find?_eq_some hx);omega
 refine Ev.exp (e := .mk 13 0 0 [] [a, b, c]) (own := 0) ?_ hk;refine Ev.succ ?_;have e1 : ∀ f, zaZ l (f + 1) p 0 = (zc4 l f (p + 1) 0).bind fun a q1 => (zbt l q1 [[116, 104, 101, 110]]).bind fun _ q2 => (zc4 l f q2 0).bind fun b q3 =>
   (zbt l q3 [[101, 108, 115, 101]]).bind fun _ q4 => (zc4 l f q4 0).bind fun c q5 => .ok (.mk 13 0 0 [] [a, b, c], 0) q5 := fun f => by
  rw [zaZ, hr.isB]; simp
 simp only [e1];refine Ev.bind (zgv ha (by decide) (by decide) r0 (by decide) (by decide) (by decide) rfl) ?_;rw [r1.want];simp only [PR.zat];refine Ev.bind (zgv hb (by decide) (by decide) r2 (by decide) (by decide) (by decide) rfl) ?_;rw [r3.want];simp only [PR.zat];exact Ev.bind (zkl hc (by decide) (by decide) r4 hu hno) Ev.const
theorem zpI {l : List Tok} {a : Exp} (ha : zmU l a) : zqU l (.mk 12 0 0 [] [a]) := by
 intro form p r h0 h1 hr hu hf hk;have hF : zbZ (Exp.mk 12 0 0 [] [a]).op = 3 := rfl;rw [hF] at hk h1 hf;have hw : zaV (.mk 12 0 0 [] [a]) = [110, 111, 116] :: zaS a 3 := by
  rw [zaV, zcJ, if_neg (by decide), if_neg (by decide), if_neg (by decide), if_pos rfl, zbN (a := a) rfl]
 rw [hw] at hr hk hu hf;have r0 := hr.tail;have hlen : p + ([110, 111, 116] :: zaS a 3).length = p + 1 + (zaS a 3).length := by simp; omega
 rw [hlen] at hk hu hf;have hno : ∀ x, zeL l (p + 1 + (zaS a 3).length) = some x -> x.form < 3 := fun x hx => by
  have h1 := hf x hx;have h2 := zfa (List.mem_of_find?_eq_some hx);omega
 refine Ev.exp (e := .mk 12 0 0 [] [a]) (own := 3) ?_ hk;refine Ev.succ ?_;have e1 : ∀ f, zaZ l (f + 1) p form = (zc4 l f (p + 1) 3).bind fun a q => .ok (.mk 12 0 0 [] [a], 3) q := fun f => by
  rw [zaZ, hr.isB, hr.isB]; simp [h1]
 simp only [e1];exact Ev.bind (zkl ha (by decide) (by decide) r0 hu hno) Ev.const
theorem zlN {l : List Tok} {a b : Exp} {op : Int} {w : W8} (hop : op = 6 /\ w = [109, 105, 110] \/ op = 7 /\ w = [109, 97, 120]) (ha : zmU l a) (hb : zmU l b) : zqU l (.mk op 0 0 [] [a, b]) := by
 intro form p r h0 h1 hr hu hf hk;have hF : zbZ (Exp.mk op 0 0 [] [a, b]).op = 7 := by rcases hop with ⟨rfl, rfl⟩ | ⟨rfl, rfl⟩ <;> rfl
 rw [hF] at hk h1 hf;have hw : zaV (.mk op 0 0 [] [a, b]) = w :: [40] :: (zaS a 0 ++ [44] :: (zaS b 0 ++ [[41]])) := by
  rcases hop with ⟨rfl, rfl⟩ | ⟨rfl, rfl⟩
  ·rw [zaV, zcJ, if_neg (by decide), if_neg (by decide), if_neg (by decide), if_neg (by decide), if_pos rfl, zbN (a := a) rfl, zbN (a := b) rfl]; simp
  ·rw [zaV, zcJ, if_neg (by decide), if_neg (by decide), if_neg (by decide), if_neg (by decide), if_neg (by decide), if_pos rfl, zbN (a := a) rfl, zbN (a := b) rfl]; simp
 rw [hw] at hr hk hu hf;have rp := hr.tail;have r0 := rp.tail;have r1 := r0.right;have r2 := r1.tail;have r3 := r2.right;have hlen : p + (w :: [40] :: (zaS a 0 ++ [44] :: (zaS b 0 ++ [[41]]))).length = p + 1 + 1 + (zaS a 0).length + 1 + (zaS b 0).length + 1 := by simp; omega
 rw [hlen] at hk;obtain ⟨_, t, ht, t1, t2, t3⟩ := hr.head;refine Ev.exp (e := .mk op 0 0 [] [a, b]) (own := 7) ?_ hk;refine Ev.zrD ?_ fun f => ?_
 ·have e1 : ∀ f, zaL l (f + 1) p = (zbt l (p + 1) [[40]]).bind fun _ q1 => (zc4 l f q1 0).bind fun a q2 => (zbt l q2 [[44]]).bind fun _ q3 => (zc4 l f q3 0).bind fun b q4 =>
    (zbt l q4 [[41]]).bind fun _ q5 => .ok (.mk op 0 0 [] [a, b]) q5 := fun f => by
   rw [zaL, ht];rcases hop with ⟨rfl, rfl⟩ | ⟨rfl, rfl⟩
   ·have : t.kind = 1 := by rw [t2]; decide
    simp [this, hr.isB]
   ·have : t.kind = 1 := by rw [t2]; decide
    simp [this, hr.isB]
  simp only [e1];rw [rp.want];simp only [PR.zat];refine Ev.bind (zgv ha (by decide) (by decide) r0 (by decide) (by decide) (by decide) rfl) ?_;rw [r1.want];simp only [PR.zat];refine Ev.bind (zgv hb (by decide) (by decide) r2 (by decide) (by decide) (by decide) rfl) ?_;rw [r3.want];simp only [PR.zat];exact Ev.const
 ·rw [zaZ, hr.isB, hr.isB];rcases hop with ⟨rfl, rfl⟩ | ⟨rfl, rfl⟩ <;> simp
theorem zpG {l : List Tok} {a b : Exp} {o : Opr} (ho : o ∈ oprs) (ha : zmU l a) (hb : zmU l b) : zqU l (.mk o.op 0 0 [] [a, b]) := by
 intro form p r h0 h1 hr hu hf hk;obtain ⟨g1, g2, g3⟩ := zfa ho;have hfind : oprs.find? (fun x => decide (x.op = o.op)) = some o := by
  simp only [oprs, List.mem_cons, List.mem_nil_iff, or_false] at ho;rcases ho with rfl | rfl | rfl | rfl | rfl | rfl | rfl | rfl <;> rfl
 have hne : o.op ≠ 0 /\ o.op ≠ 1 /\ o.op ≠ 13 /\ o.op ≠ 12 /\ o.op ≠ 6 /\ o.op ≠ 7 := by
  have ho := ho;simp only [oprs, List.mem_cons, List.mem_nil_iff, or_false] at ho;rcases ho with rfl | rfl | rfl | rfl | rfl | rfl | rfl | rfl <;> decide
 obtain ⟨n0, n1, n13, n12, n6, n7⟩ := hne;have hF : zbZ (Exp.mk o.op 0 0 [] [a, b]).op = o.form := by
  show zbZ o.op = o.form;rw [zbZ, if_neg n13, if_neg n12, hfind]
 rw [hF] at hk h1 hf;have hw : zaV (.mk o.op 0 0 [] [a, b]) = zaS a (if o.form = 4 then 5 else o.form) ++ o.text :: zaS b (o.form + 1) := by
  rw [zaV, zcJ, if_neg n0, if_neg n1, if_neg n13, if_neg n12, if_neg n6, if_neg n7, hfind];simp only;rw [zbN (a := a) rfl, zbN (a := b) rfl]
 rw [hw] at hr hk hu hf;generalize hle : (if o.form = 4 then 5 else o.form) = lf at hr hk hu hf;have hlf : o.form <= lf /\ lf <= 6 /\ (o.form = 4 -> lf = 5) := by
  rw [<- hle]; split <;> omega
 have r1 := hr.right;have r2 := r1.tail;have hlen : p + (zaS a lf ++ o.text :: zaS b (o.form + 1)).length = p + (zaS a lf).length + 1 + (zaS b (o.form + 1)).length := by simp; omega
 rw [hlen] at hk hu hf;have hop : zeL l (p + (zaS a lf).length) = some o := by rw [r1.opr, zoX ho]
 have hown := zp0 (e := a) (least := lf) (by omega);obtain ⟨p1, p2, p3⟩ := znt ho;refine ha lf form p r h0 (by omega) (by omega) hr.left (r1.noUnit p1 p2 p3) (fun x hx => ?_) ?_
 ·rw [hop] at hx;cases hx;omega
 ·refine Ev.succ ?_;have e1 : ∀ f, zdc l (f + 1) form a (zoW a lf) (p + (zaS a lf).length) = (zc4 l f (p + (zaS a lf).length + 1) (o.form + 1)).bind fun e2 r => zdc l f form (.mk o.op 0 0 [] [a, e2]) o.form r := fun f => by
   rw [zdc, hop];simp only;rw [if_neg];simp only [not_or, not_and];exact ⟨by omega, by omega, fun h4 h5 => by have := hlf.2.2 h5; omega⟩
  simp only [e1];exact Ev.bind (F := fun f e2 r => zdc l f form (.mk o.op 0 0 [] [a, e2]) o.form r) (zkl hb (by omega) (by omega) r2 hu fun x hx => by have := hf x hx; omega) hk
end Go.Proofs.YthnemhfamhnfjaaGreatDoor
namespace Go.Proofs.YthnemhfamhnfjaaGreatDoor
open Go Go.VL
theorem zkT {α} {l : List α} (h : l.length = 1) : ∃ a, l = [a] := by
 match l, h with | [a], _ => exact ⟨a, rfl⟩
theorem zkS {α} {l : List α} (h : l.length = 2) : ∃ a b, l = [a, b] := by
 match l, h with | [a, b], _ => exact ⟨a, b, rfl⟩
theorem zkR {α} {l : List α} (h : l.length = 3) : ∃ a b c, l = [a, b, c] := by
 match l, h with | [a, b, c], _ => exact ⟨a, b, c, rfl⟩
theorem zb9 {d : Nat} {op n u : Int} {s : W8} {args : List Exp} (h : zaC (d + 1) (.mk op n u s args) = true) :
  (op = 0 /\ s = [] /\ args = [] /\ zo2 (.mk 0 n u [] []) = true) \/ (op = 1 /\ n = 0 /\ u = 0 /\ args = [] /\ zbO s = true) \/
  (n = 0 /\ u = 0 /\ s = [] /\ (∀ x ∈ args, zaC d x = true) /\ ((op = 12 /\ args.length = 1) \/ (op = 13 /\ args.length = 3) \/ (op ≠ 0 /\ op ≠ 1 /\ op ≠ 12 /\ op ≠ 13 /\ 0 <= op /\ op < 14 /\ args.length = 2))) := by
 have h2 : (decide ((args.length : Int) = zc1 op) && (if op = 0 then zo2 (.mk op n u s args) else if n ≠ 0 \/ u ≠ 0 then false else if op = 1 then zbO s else decide (s = []) && !args.any (fun x => !zaC d x))) = true := h;rw [Bool.and_eq_true, decide_eq_true_eq] at h2;obtain ⟨h1, h2⟩ := h2;by_cases h0 : op = 0
 ·subst h0;rw [if_pos rfl] at h2;have hs : s = [] := by
   have h3 : (decide (s = []) && decide (0 <= u) && decide (u < 5) && decide (0 <= n) && decide (n <= if u = 0 then 1 else 1099511627776)) = true := h2;simp only [Bool.and_eq_true, decide_eq_true_eq] at h3;exact h3.1.1.1.1
  have ha : args = [] := by
   have : zc1 0 = 0 := by decide
   rw [this] at h1;exact List.eq_nil_of_length_eq_zero (by omega)
  subst hs; subst ha;exact .inl ⟨rfl, rfl, rfl, h2⟩
 ·rw [if_neg h0] at h2;by_cases hnu : n ≠ 0 \/ u ≠ 0
  ·rw [if_pos hnu] at h2; cases h2
  ·rw [if_neg hnu] at h2;have hn : n = 0 := by omega
   have hu : u = 0 := by omega
   by_cases h1' : op = 1
   ·rw [if_pos h1'] at h2;subst h1';have : zc1 1 = 0 := by decide
    rw [this] at h1;exact .inr (.inl ⟨rfl, hn, hu, List.eq_nil_of_length_eq_zero (by omega), h2⟩)
   ·rw [if_neg h1', Bool.and_eq_true, decide_eq_true_eq] at h2;refine .inr (.inr ⟨hn, hu, h2.1, fun x hx => ?_, ?_⟩)
    ·have h3 := h2.2;rw [Bool.not_eq_true', List.any_eq_false] at h3;simpa using h3 x hx
    ·unfold zc1 at h1;rw [if_neg (by omega)] at h1;by_cases h12 : op = 12
     ·rw [if_pos h12] at h1; exact .inl ⟨h12, by omega⟩
     ·rw [if_neg h12] at h1;by_cases h13 : op = 13
      ·rw [if_pos h13] at h1; exact .inr (.inl ⟨h13, by omega⟩)
      ·rw [if_neg h13] at h1;by_cases hr : op < 0 \/ 14 <= op
       ·rw [if_pos hr] at h1; omega
       ·rw [if_neg hr] at h1;exact .inr (.inr ⟨h0, h1', h12, h13, by omega, by omega, by omega⟩)
theorem zgS {op : Int} (h0 : 2 <= op) (h1 : op < 12) (h6 : op ≠ 6) (h7 : op ≠ 7) : ∃ o ∈ oprs, o.op = op := by
 have : op = 2 \/ op = 3 \/ op = 4 \/ op = 5 \/ op = 8 \/ op = 9 \/ op = 10 \/ op = 11 := by omega
 rcases this with rfl | rfl | rfl | rfl | rfl | rfl | rfl | rfl <;> simp [oprs]
theorem zlj (l : List Tok) : ∀ (d : Nat) (e : Exp), zaC d e = true -> zmU l e
 | 0, e, h => by rw [zaC] at h; cases h
 | d + 1, .mk op n u s args, h => by
  refine zjL ?_;rcases zb9 h with ⟨rfl, rfl, rfl, hn⟩ | ⟨rfl, rfl, rfl, rfl, hn⟩ | ⟨rfl, rfl, rfl, ha, h3⟩
  ·exact zpH hn
  ·exact zot hn
  ·have hm : ∀ x ∈ args, zmU l x := fun x hx => zlj l d x (ha x hx);rcases h3 with ⟨rfl, hl⟩ | ⟨rfl, hl⟩ | ⟨g0, g1, g12, g13, g2, g3, hl⟩
   ·obtain ⟨a, rfl⟩ := zkT hl;exact zpI (hm a (by simp))
   ·obtain ⟨a, b, c, rfl⟩ := zkR hl;exact zqE (hm a (by simp)) (hm b (by simp)) (hm c (by simp))
   ·obtain ⟨a, b, rfl⟩ := zkS hl;by_cases h6 : op = 6
    ·exact zlN (.inl ⟨h6, rfl⟩) (hm a (by simp)) (hm b (by simp))
    ·by_cases h7 : op = 7
     ·exact zlN (.inr ⟨h7, rfl⟩) (hm a (by simp)) (hm b (by simp))
     ·obtain ⟨o, ho, rfl⟩ := zgS (op := op) (by omega) (by omega) h6 h7;exact zpG ho (hm a (by simp)) (hm b (by simp))
theorem zpl {l : List Tok} {d : Nat} {e : Exp} (h : zaC d e = true) {p : Nat} (hr : Reads l p (zaS e 0)) (hu : zks l (p + (zaS e 0).length)) (ho : zeL l (p + (zaS e 0).length) = none) :
  Ev (fun f => zc4 l f p 0) (.ok e (p + (zaS e 0).length)) :=
 zkl (zlj l d e h) (by decide) (by decide) hr hu fun x hx => by rw [ho] at hx; cases hx
end Go.Proofs.YthnemhfamhnfjaaGreatDoor
namespace Go.Proofs.YthnemhfamhnfjaaGreatDoor
open Go Go.VL
def zr7 (r : W8) : Prop := ∀ c t, r = c :: t -> za0 c = true
structure GoodW (w : W8) : Prop where
 next : ∀ r, zr7 r -> zeN (w ++ r) = .ok ⟨zeY w, w, zoG w, 0⟩
 ne : w ≠ []
 head : ∀ c t, w = c :: t -> za0 c = false
theorem zcT {p : UInt8 -> Bool} {a r : W8} (ha : ∀ c ∈ a, p c = true) (hr : ∀ c t, r = c :: t -> p c = false) : (a ++ r).takeWhile p = a := by
 induction a with
 | nil =>
  cases r with
  | nil => rfl
  | cons c t => rw [List.nil_append, List.takeWhile_cons, hr c t rfl]; rfl
 | cons c a ih => rw [List.cons_append, List.takeWhile_cons, ha c (by simp), if_pos rfl, ih fun x hx => ha x (by simp [hx])]
theorem zlM {c : UInt8} (h : za0 c = true) : zbl c = false /\ zaM c = false := by
 simp only [za0, zbl, zaM, Bool.or_eq_true, Bool.and_eq_false_iff, decide_eq_true_eq, decide_eq_false_iff_not] at h ⊢;omega
theorem znQ {c : UInt8} (h : zbl c = true) : za0 c = false /\ zaM c = false := by
 simp only [za0, zbl, zaM, Bool.and_eq_true, Bool.or_eq_false_iff, Bool.and_eq_false_iff, decide_eq_true_eq, decide_eq_false_iff_not] at h ⊢;omega
theorem zlH {c : UInt8} (h : zaM c = true) : za0 c = false /\ zbl c = false := by
 simp only [za0, zbl, zaM, Bool.and_eq_true, Bool.or_eq_false_iff, Bool.and_eq_false_iff, decide_eq_true_eq, decide_eq_false_iff_not] at h ⊢;omega
theorem zaR {w : W8} (h : zeU w = true) : GoodW w := by
 cases w with
 | nil => simp [zeU] at h
 | cons c s =>
  have h0 := h;simp only [zeU, Bool.and_eq_true, decide_eq_true_eq] at h;obtain ⟨⟨hc, hlen⟩, hsp⟩ := h;have hall : ∀ x ∈ c :: s, zca x = true := by
   have h3 : (c :: s).takeWhile (fun c => zbl c || zaM c) = c :: s := (List.takeWhile_sublist _).eq_of_length hsp;intro x hx;rw [<- h3] at hx;exact List.all_eq_true.1 (List.all_takeWhile (l := c :: s) (p := fun c => zbl c || zaM c)) x hx
  refine ⟨fun r hr => ?_, by simp, fun x t he => by cases he; exact (znQ hc).1⟩;have htw : ((c :: s) ++ r).takeWhile zca = c :: s := zcT hall fun x t he => by
   have := zlM (hr x t he);simp [zca, this]
  have htk : ((c :: s) ++ r).take (zbE zca ((c :: s) ++ r)) = c :: s := by rw [zbE, htw]; simp
  have hkn : zeY (c :: s) = 1 := by rw [zeY, if_pos hc]
  rw [List.cons_append] at htk ⊢;rw [zeN, if_pos hc, htk, h0, if_pos rfl, hkn, zoG, hkn];rfl
theorem ziF {n : Int} (h0 : 0 <= n) (h1 : n <= 1099511627776) : GoodW (Lib.itoa n) := by
 obtain ⟨k1, k2, k3⟩ := zgt h0 h1;have hall : ∀ x ∈ Lib.itoa n, zaM x = true := by
  have hi : Lib.itoa n = Lib.decDigits n.toNat := by rw [Lib.itoa, if_neg (by omega)]
  rw [hi]; exact zdt _
 generalize Lib.itoa n = w at k1 k2 k3 hall;cases w with
 | nil => exact absurd rfl k3
 | cons c s =>
  have hc := hall c (by simp);refine ⟨fun r hr => ?_, by simp, fun x t he => by cases he; exact (zlH hc).1⟩;have htw : ((c :: s) ++ r).takeWhile zaM = c :: s := zcT hall fun x t he => (zlM (hr x t he)).2;have htk : ((c :: s) ++ r).take (zbE zaM ((c :: s) ++ r)) = c :: s := by rw [zbE, htw]; simp
  rw [List.cons_append] at htk ⊢;rw [zeN, (zlH hc).2, if_neg (by simp), if_pos hc, htk, k2, k1, zoG, k1, k2];rfl
theorem zdU {w : W8} (h : w ∈ signsL) : GoodW w := by
 simp only [signsL, List.mem_cons, List.mem_nil_iff, or_false] at h;refine ⟨fun r hr => ?_, by rcases h with rfl | rfl | rfl | rfl | rfl | rfl | rfl | rfl | rfl | rfl | rfl <;> simp, fun c t he => by
  rcases h with rfl | rfl | rfl | rfl | rfl | rfl | rfl | rfl | rfl | rfl | rfl <;> cases he <;> decide⟩
 cases r with
 | nil => rcases h with rfl | rfl | rfl | rfl | rfl | rfl | rfl | rfl | rfl | rfl | rfl <;> rfl
 | cons c t =>
  have hb := hr c t rfl;have hne : ¬ (61 : UInt8) = c := fun e => by subst e; simp [za0] at hb
  rcases h with rfl | rfl | rfl | rfl | rfl | rfl | rfl | rfl | rfl | rfl | rfl <;>
   simp [zeN, zbl, zaM, signsL, List.find?, List.isPrefixOf, zeY, zoG, hne]
def zbw : List (W8 × W8) -> W8
 | [] => []
 | x :: l => x.1 ++ (x.2 ++ zbw l)
def Spaced : List (W8 × W8) -> Prop
 | [] => True
 | [x] => GoodW x.1 /\ ∀ c ∈ x.2, za0 c = true
 | x :: y :: l => GoodW x.1 /\ (∀ c ∈ x.2, za0 c = true) /\ x.2 ≠ [] /\ Spaced (y :: l)
theorem Spaced.good {x : W8 × W8} {l : List (W8 × W8)} (h : Spaced (x :: l)) : GoodW x.1 /\ (∀ c ∈ x.2, za0 c = true) /\ (l ≠ [] -> x.2 ≠ []) /\ Spaced l := by
 cases l with
 | nil => exact ⟨h.1, h.2, fun h => absurd rfl h, trivial⟩
 | cons y l => exact ⟨h.1, h.2.1, fun _ => h.2.2.1, h.2.2.2⟩
end Go.Proofs.YthnemhfamhnfjaaGreatDoor
namespace Go.Proofs.YthnemhfamhnfjaaGreatDoor
open Go Go.VL
theorem PR.zch {α β : Type} {r : PR α} {F G : α -> Nat -> PR β} (h : ∀ a q, r = .ok a q -> F a q = G a q) : r.bind F = r.bind G := by
 cases r with
 | ok a q => exact h a q rfl
 | stop => rfl
theorem zlA {l : List Tok} (hl : TokOK l) : ∀ (f : Nat),
  (∀ p form, p < l.length -> 4 * (l.length - p) + 3 <= f -> zc4 l (f + 1) p form = zc4 l f p form) /\
  (∀ p form e own, p < l.length -> 4 * (l.length - p) + 2 <= f -> zdc l (f + 1) form e own p = zdc l f form e own p) /\
  (∀ p form, p < l.length -> 4 * (l.length - p) + 2 <= f -> zaZ l (f + 1) p form = zaZ l f p form) /\
  (∀ p, p < l.length -> 4 * (l.length - p) + 1 <= f -> zaL l (f + 1) p = zaL l f p)
 | 0 => ⟨fun _ _ _ h => by omega, fun _ _ _ _ _ h => by omega, fun _ _ _ h => by omega, fun _ _ h => by omega⟩
 | f + 1 => by
  obtain ⟨he, hlo, hpr, hpm⟩ := zlA hl f;obtain ⟨le, llo, lpr, lpm⟩ := zce hl f;refine ⟨fun p form hp hf => ?_, fun p form e own hp hf => ?_, fun p form hp hf => ?_, fun p hp hf => ?_⟩
  ·simp only [zc4];rw [hpr p form hp (by omega)];refine PR.zch fun a q hq => ?_;have g := lpr _ _ _ _ hq hp;exact hlo _ _ _ _ g.2 (by omega)
  ·rw [zdc, zdc];split
   ·rfl
   ·rename_i x hx;have hb := List.find?_some hx;have hp2 := zbd hl hb;split
    ·rfl
    ·rw [he (p + 1) _ hp2 (by omega)];refine PR.zch fun a q hq => ?_;have g := le _ _ _ _ hq hp2;exact hlo _ _ _ _ g.2 (by omega)
  ·simp only [zaZ];split
   ·rename_i hb;have hp2 := zbd hl hb.2;rw [he (p + 1) _ hp2 (by omega)];refine PR.zch fun a q1 hq1 => ?_;have g1 := le _ _ _ _ hq1 hp2;refine PR.zch fun _ q2 hq2 => ?_;have g2 := za2 hl _ hq2 g1.2;rw [he q2 _ g2.2 (by omega)];refine PR.zch fun b q3 hq3 => ?_;have g3 := le _ _ _ _ hq3 g2.2;refine PR.zch fun _ q4 hq4 => ?_;have g4 := za2 hl _ hq4 g3.2;rw [he q4 _ g4.2 (by omega)]
   ·split
    ·rename_i hb;rw [he (p + 1) _ (zbd hl hb.2) (by omega)]
    ·rw [hpm p hp (by omega)]
  ·simp only [zaL];split
   ·rfl
   ·split
    ·rfl
    ·split
     ·rfl
     ·split
      ·rfl
      ·split
       ·rename_i hb;have hp2 : p + 1 < l.length := hb.elim (zbd hl) (zbd hl);refine PR.zch fun _ q1 hq1 => ?_;have g1 := za2 hl _ hq1 hp2;rw [he q1 _ g1.2 (by omega)];refine PR.zch fun a q2 hq2 => ?_;have g2 := le _ _ _ _ hq2 g1.2;refine PR.zch fun _ q3 hq3 => ?_;have g3 := za2 hl _ hq3 g2.2;rw [he q3 _ g3.2 (by omega)]
       ·split
        ·rename_i hb;rw [he (p + 1) _ (zbd hl hb) (by omega)]
        ·rfl
theorem zj2 {l : List Tok} (hl : TokOK l) {p f : Nat} {form : Int} (hp : p < l.length) (hf : 4 * (l.length - p) + 3 <= f) : ∀ g, zc4 l (f + g) p form = zc4 l f p form
 | 0 => rfl
 | g + 1 => by rw [<- nAA, (zlA hl (f + g)).1 p form hp (by omega), zj2 hl hp hf g]
theorem Ev.fuel {l : List Tok} (hl : TokOK l) {p f : Nat} {form : Int} {r : PR Exp} (h : Ev (fun f => zc4 l f p form) r) (hp : p < l.length) (hf : 4 * (l.length - p) + 3 <= f) : zc4 l f p form = r := by
 obtain ⟨f0, h⟩ := h;rw [<- zj2 hl hp hf f0];exact h (f + f0) (by omega)
end Go.Proofs.YthnemhfamhnfjaaGreatDoor
namespace Go.Proofs.YthnemhfamhnfjaaGreatDoor
open Go Go.VL
theorem zhm {a b c : Exp} : zaV (.mk 13 0 0 [] [a, b, c]) = [105, 102] :: (zaS a 0 ++ [116, 104, 101, 110] :: (zaS b 0 ++ [101, 108, 115, 101] :: zaS c 0)) := by
 rw [zaV, zcJ, if_neg (by decide), if_neg (by decide), if_pos rfl, zbN (a := a) rfl, zbN (a := b) rfl, zbN (a := c) rfl];simp
theorem zfs {a : Exp} : zaV (.mk 12 0 0 [] [a]) = [110, 111, 116] :: zaS a 3 := by
 rw [zaV, zcJ, if_neg (by decide), if_neg (by decide), if_neg (by decide), if_pos rfl, zbN (a := a) rfl]
theorem zft {a b : Exp} : zaV (.mk 6 0 0 [] [a, b]) = [109, 105, 110] :: [40] :: (zaS a 0 ++ [44] :: (zaS b 0 ++ [[41]])) := by
 rw [zaV, zcJ, if_neg (by decide), if_neg (by decide), if_neg (by decide), if_neg (by decide), if_pos rfl, zbN (a := a) rfl, zbN (a := b) rfl]; simp
theorem zfu {a b : Exp} : zaV (.mk 7 0 0 [] [a, b]) = [109, 97, 120] :: [40] :: (zaS a 0 ++ [44] :: (zaS b 0 ++ [[41]])) := by
 rw [zaV, zcJ, if_neg (by decide), if_neg (by decide), if_neg (by decide), if_neg (by decide), if_neg (by decide), if_pos rfl, zbN (a := a) rfl, zbN (a := b) rfl]; simp
theorem zfr {a b : Exp} {o : Opr} (ho : o ∈ oprs) : zaV (.mk o.op 0 0 [] [a, b]) = zaS a (if o.form = 4 then 5 else o.form) ++ o.text :: zaS b (o.form + 1) := by
 have hfind : oprs.find? (fun x => decide (x.op = o.op)) = some o := by
  simp only [oprs, List.mem_cons, List.mem_nil_iff, or_false] at ho;rcases ho with rfl | rfl | rfl | rfl | rfl | rfl | rfl | rfl <;> rfl
 have hne : o.op ≠ 0 /\ o.op ≠ 1 /\ o.op ≠ 13 /\ o.op ≠ 12 /\ o.op ≠ 6 /\ o.op ≠ 7 := by
  simp only [oprs, List.mem_cons, List.mem_nil_iff, or_false] at ho;rcases ho with rfl | rfl | rfl | rfl | rfl | rfl | rfl | rfl <;> decide
 obtain ⟨n0, n1, n13, n12, n6, n7⟩ := hne;rw [zaV, zcJ, if_neg n0, if_neg n1, if_neg n13, if_neg n12, if_neg n6, if_neg n7, hfind];simp only;rw [zbN (a := a) rfl, zbN (a := b) rfl]
theorem zoZ {o : Opr} (ho : o ∈ oprs) : GoodW o.text := by
 simp only [oprs, List.mem_cons, List.mem_nil_iff, or_false] at ho;rcases ho with rfl | rfl | rfl | rfl | rfl | rfl | rfl | rfl
 ·exact zaR (by decide)
 ·exact zaR (by decide)
 all_goals exact zdU (by decide)
def AllGood (ws : List W8) : Prop := ∀ w ∈ ws, GoodW w
theorem AllGood.nil : AllGood [] := fun _ h => by cases h
theorem AllGood.cons {w : W8} {ws : List W8} (h : GoodW w) (h2 : AllGood ws) : AllGood (w :: ws) := fun x hx => by
 rcases List.mem_cons.1 hx with rfl | hx
 ·exact h
 ·exact h2 x hx
theorem AllGood.app {a b : List W8} (h : AllGood a) (h2 : AllGood b) : AllGood (a ++ b) := fun x hx => by
 rcases List.mem_append.1 hx with hx | hx
 ·exact h x hx
 ·exact h2 x hx
theorem zbP : GoodW [40] /\ GoodW [41] /\ GoodW [44] /\ GoodW [59] /\ GoodW [61] := ⟨zdU (by decide), zdU (by decide), zdU (by decide), zdU (by decide), zdU (by decide)⟩
theorem znw {e : Exp} (h : AllGood (zaV e)) (least : Int) : AllGood (zaS e least) := by
 rw [zaS, zoF];split
 ·exact (h.app (AllGood.cons zbP.2.1 AllGood.nil)).cons zbP.1
 ·exact h
theorem zmh {n u : Int} (h : zo2 (.mk 0 n u [] []) = true) : AllGood (zdh n u) := by
 obtain ⟨hu0, hu1, hn0, hn2, hn1⟩ := zgU h;rw [zdh];split
 ·refine AllGood.cons ?_ AllGood.nil;split <;> exact zaR (by decide)
 ·refine AllGood.cons (ziF hn0 hn2) ?_;split
  ·exact AllGood.cons (zaR (by decide)) AllGood.nil
  ·split
   ·exact AllGood.cons (zaR (by decide)) AllGood.nil
   ·split
    ·exact AllGood.cons (zaR (by decide)) (AllGood.cons (zaR (by decide)) AllGood.nil)
    ·exact AllGood.nil
theorem zjc : ∀ (d : Nat) (e : Exp), zaC d e = true -> ∀ least, AllGood (zaS e least)
 | 0, e, h => by rw [zaC] at h; cases h
 | d + 1, .mk op n u s args, h => by
  intro least;refine znw ?_ least;rcases zb9 h with ⟨rfl, rfl, rfl, hn⟩ | ⟨rfl, rfl, rfl, rfl, hn⟩ | ⟨rfl, rfl, rfl, ha, h3⟩
  ·have hb : zaV (.mk 0 n u [] []) = zdh n u := by rw [zaV, zcJ, if_pos rfl]
   rw [hb]; exact zmh hn
  ·have hb : zaV (.mk 1 0 0 s []) = [s] := by rw [zaV, zcJ, if_neg (by decide), if_pos rfl]
   rw [hb];refine AllGood.cons (zaR ?_) AllGood.nil;rw [zbO, Bool.and_eq_true] at hn;exact hn.1
  ·have hm : ∀ x ∈ args, ∀ least, AllGood (zaS x least) := fun x hx => zjc d x (ha x hx);rcases h3 with ⟨rfl, hl⟩ | ⟨rfl, hl⟩ | ⟨g0, g1, g12, g13, g2, g3, hl⟩
   ·obtain ⟨a, rfl⟩ := zkT hl;rw [zfs];exact (hm a (by simp) 3).cons (zaR (by decide))
   ·obtain ⟨a, b, c, rfl⟩ := zkR hl;rw [zhm];exact ((hm a (by simp) 0).app (((hm b (by simp) 0).app ((hm c (by simp) 0).cons (zaR (by decide)))).cons (zaR (by decide)))).cons (zaR (by decide))
   ·obtain ⟨a, b, rfl⟩ := zkS hl;have hab := ((hm a (by simp) 0).app (((hm b (by simp) 0).app (AllGood.cons zbP.2.1 AllGood.nil)).cons zbP.2.2.1)).cons zbP.1;by_cases h6 : op = 6
    ·subst h6;rw [zft];exact hab.cons (zaR (by decide))
    ·by_cases h7 : op = 7
     ·subst h7;rw [zfu];exact hab.cons (zaR (by decide))
     ·obtain ⟨o, ho, rfl⟩ := zgS (op := op) (by omega) (by omega) h6 h7;rw [zfr ho];exact (hm a (by simp) _).app ((hm b (by simp) _).cons (zoZ ho))
end Go.Proofs.YthnemhfamhnfjaaGreatDoor
namespace Go.Proofs.YthnemhfamhnfjaaGreatDoor
open Go Go.VL
theorem zoP {l : List (W8 × W8)} {ts : List Tok} (h1 : ts.length = l.length + 1) (h2 : ∃ t, ts[l.length]? = some t /\ t.kind = 0) (h3 : l.length <= 2000) : TokOK ts := by
 obtain ⟨t, ht, hk⟩ := h2;refine ⟨fun i x hx hne => ?_, by omega⟩;have hi := (lGE.1 hx).1;by_cases he : i = l.length
 ·subst he;rw [ht] at hx;cases hx;exact absurd hk hne
 ·omega
theorem zpn {ts : List Tok} {q : Nat} {t : Tok} (h : ts[q]? = some t) (hk : t.kind = 0) : (∀ v, isB ts q v = false) /\ zeL ts q = none := by
 have h1 : ∀ v, isB ts q v = false := fun v => by simp [isB, h, hk]
 exact ⟨h1, by simp [zeL, h1]⟩
def spW : List W8 -> List (W8 × W8)
 | [] => []
 | [w] => [(w, [])]
 | w :: v :: l => (w, [32]) :: spW (v :: l)
def zbs (ws : List W8) : W8 := zbw (spW ws)
theorem zaY (w v : W8) (l : List W8) : zbs (w :: v :: l) = w ++ [32] ++ zbs (v :: l) := by simp [zbs, spW, zbw]
theorem zcF : ∀ (a b : List W8), a ≠ [] -> b ≠ [] -> zbs (a ++ b) = zbs a ++ [32] ++ zbs b
 | [], b, h, _ => absurd rfl h
 | [w], b, _, hb => by
  cases b with
  | nil => exact absurd rfl hb
  | cons v l => rw [List.singleton_append, zaY]; simp [zbs, spW, zbw]
 | w :: v :: l, b, _, hb => by
  have := zcF (v :: l) b (by simp) hb;rw [List.cons_append, List.cons_append, zaY, zaY, <- List.cons_append, this];simp
end Go.Proofs.YthnemhfamhnfjaaGreatDoor
namespace Go.Proofs.YthnemhfamhnfjaaGreatDoor
open Go Go.VL Go.Shelf Go.RowKit
theorem zoO {k : Kr} {d e : D} {vs : Array Value} (h : RepL k [d, e] vs) : ∃ v u, vs = #[v, u] /\ Rep k d v /\ Rep k e u := by
 obtain ⟨h1, h2⟩ := h;have hs : vs.size = 2 := by simpa using h1
 refine ⟨vs.getD 0 undef, vs.getD 1 undef, ?_, h2 0 d rfl, h2 1 e rfl⟩;apply Array.ext_getElem?;intro i
 match i with
 | 0 => simp [show 0 < vs.size by omega]
 | 1 => simp [show 1 < vs.size by omega]
 | i + 2 => rw [Array.getElem?_eq_none (by omega), Array.getElem?_eq_none (by simp)]
theorem zl5 {k : Kr} {rows : List (List U)} {v : Value} (h : Rep k (.u (.sl rows)) v) : (rows = [] /\ ∃ a c, v = .slice a 0 c) \/ ∃ (b o sz c : Nat) (f : Nat -> Nat -> Value), v = .slice (some ⟨b, o, none⟩) rows.length c /\ rows.length <= c /\ (∀ r ∈ rows, r.length = sz) /\
  (∀ i, i < rows.length -> ∀ j, j < sz -> k.mem b (o + i * sz + j) = some (.val (f i j))) /\ ∀ i r, rows[i]? = some r -> ∀ j u, r[j]? = some u -> RepU k.mem u (f i j) := by
 cases h with
 | u _ _ h => cases h with
  | slE a c _ => exact .inl ⟨rfl, a, c, rfl⟩
  | sl _ b o sz c f hc hx hsz hm hr => exact .inr ⟨b, o, sz, c, f, rfl, hc, hsz, hm, hr⟩
theorem zpi (ws : List W8) : zbs ws = Lib.join ws [32] := by
 induction ws with
 | nil => rfl
 | cons w l ih =>
  cases l with
  | nil => simp [zbs, spW, zbw, Lib.join_one]
  | cons v l => rw [zaY, ih, Lib.join_cons, Lib.join_cons]; simp [Lib.joinTail]
theorem zlw (ws : List W8) (hlen : (zbs ws).length <= 140737488355328) (hN : ws.length <= 140737488355328) : Fun Tryz.prog 54 [.u (.sl (ws.map fun w => [.str w])), .u (.str [32])] (· = .u (.str (zbs ws))) :=
 Fun.zoD fun k own w vs hsat hrep => by
  obtain ⟨v, u, rfl, hv, hu⟩ := zoO hrep;have hu := zej hu;subst hu;have hsep : ([32] : List UInt8) = (⟨([32] : List UInt8).toArray⟩ : ByteArray).data.toList := rfl;have none : ∀ a c, ws = [] -> v = .slice a 0 c -> ∃ v', RepU k.mem (.str (zbs ws)) v' /\ Calls Tryz.prog 54 #[v, .string ⟨([32] : List UInt8).toArray⟩] w fun e w' => e = .returned v' /\ Below w.heap.size w w' := fun a c hw hv => by
   subst hv; subst hw;exact ⟨.string ⟨#[]⟩, .str [], (Tryz.strings_Join_none a c _ w).mono fun e w' ⟨h1, h2⟩ => ⟨h1, h2 ▸ Below.refl _ _⟩⟩
  rcases zl5 hv with ⟨he, a, c, rfl⟩ | ⟨b, o, sz, c, f, rfl, hc, hsz, hm, hrr⟩
  ·exact none a c (by simpa using he) rfl
  rw [List.length_map] at hc hm hv none ⊢;by_cases hw : ws = []
  ·have h0 : ws.length = 0 := by rw [hw]; rfl
   rw [h0] at none ⊢;exact none _ c hw rfl
  obtain ⟨w0, r0, e0⟩ : ∃ w0 r0, ws = w0 :: r0 := by cases ws with | nil => exact absurd rfl hw | cons a l => exact ⟨a, l, rfl⟩
  have hs1 : sz = 1 := by
   have := hsz [U.str w0] (by rw [e0]; simp);simpa using this.symm
  subst hs1;have hcell : ∀ (j : Nat) x, (ws.map fun w => (⟨w.toArray⟩ : ByteArray))[j]? = some x -> w.cell? ⟨b, o + j, Option.none⟩ = some (.string x) := fun j x hj => by
   rw [List.getElem?_map] at hj;cases hwj : ws[j]? with
   | none => rw [hwj] at hj; cases hj
   | some y =>
    rw [hwj] at hj;cases hj;have hjl := (lGE.1 hwj).1;have h1 := hm j hjl 0 Nat.one_pos;have h2 := hrr j [U.str y] (by simp [hwj]) 0 _ rfl;have h3 : f j 0 = .string ⟨y.toArray⟩ := (fun z (hz : RepU k.mem (U.str y) z) => by cases hz; rfl : ∀ z, RepU k.mem (U.str y) z -> z = .string ⟨y.toArray⟩) _ h2;have h4 := hsat.cell h1;rw [h3] at h4;simpa using h4
  have hlt : b < w.heap.size := hsat.memLt (hm 0 (by rw [e0]; simp) 0 Nat.one_pos);have hj := Tryz.strings_Join b o c (ws.map fun w => (⟨w.toArray⟩ : ByteArray)) ⟨([32] : List UInt8).toArray⟩ w hcell hlt (by rw [List.length_map]; exact hN) (by rw [List.length_map]; exact hc);have hmm : (ws.map fun w => (⟨w.toArray⟩ : ByteArray)).map (·.data.toList) = ws := by simp [Function.comp_def]
  rw [hmm, List.length_map] at hj;rw [zpi] at hlen ⊢;exact ⟨_, .str _, hj hlen⟩
theorem zoQ {k : Kr} {own obs} {w : World} (h : Sat k own obs w) : Lib.TabIs Tryz.prog w "internal/strconv.uint64pow10" .u64 Lib.pow10Tab := by
 have he : globs.head! = (globs.head!.1, Lib.pow10Tab.map fun z => Value.int .u64 z) := rfl;have hm : globs.head! ∈ globs := by unfold globs; exact List.mem_cons_self
 obtain ⟨h1, h2⟩ := k.glob _ hm;rw [he] at h1 h2;simp only [List.length_map, Lib.pow10Tab_length] at h1 h2;obtain ⟨cs, t, fr, h3, h4⟩ := zo7 (h.mem _ _ _ h2);have h5 : Tryz.prog.globalNamed "internal/strconv.uint64pow10" = some globs.head!.1 := by kernel_rfl
 unfold Lib.TabIs World.var?;rw [h5, Option.bind_some, h3];simp only [Option.some.injEq];apply Array.ext_getElem?;intro j;by_cases hj : j < 20
 ·have h6 := h.cell (h1 j hj);have h7 : cs[j]? = some ((Lib.pow10Tab.map fun z => Value.int .u64 z).getD j undef) := by simpa [World.cell?, h3] using h6
  rw [h7];simp [List.getD, Lib.pow10Tab_length, hj]
 ·rw [Array.getElem?_eq_none (by omega), Array.getElem?_eq_none (by simp [Lib.pow10Tab_length]; omega)]
theorem zlx (n : Int) (h0 : -9223372036854775808 <= n) (h1 : n <= 9223372036854775807) : Fun Tryz.prog 56 [.u (.int .i64 n)] (· = .u (.str (Lib.itoa n))) :=
 Fun.zoD fun k own w vs hsat hrep => by
  obtain ⟨v, rfl, hv⟩ := zir hrep;have hv := zbv hv;subst hv;refine ⟨_, .str _, (Tryz.strconv_Itoa n h0 h1 w (zoQ hsat)).mono ?_⟩;rintro e w' ⟨h1, q, os, rfl⟩;refine ⟨h1, rfl, rfl, rfl, ?_, fun x hx => ?_⟩
  ·show w.heap.size <= (w.heap ++ os).size;simp
  ·show (w.heap ++ os)[x]? = w.heap[x]?;rw [Array.getElem?_append_left hx]
end Go.Proofs.YthnemhfamhnfjaaGreatDoor
namespace Go.Proofs.YthnemhfamhnfjaaGreatDoor
open Go Go.VL
attribute [local simp] HS zc2 zck evPure opd uOf zaH St.put St.at getK binD binI binS binB nilD aggD zhr zh0 lookD lookR zcz Go.VL.nextD zcC ziz zia zgs zcu mkV zdn zbo zby mapEff zeb zgf Key.kk shiftI arith unD convD zdO loadD cellsAt fieldAddrD fieldD indexAddrD indexD sliceD cutD lenD minmaxD nilCheckD buildD fillD zbR zdd zeM setAll zcK zeS zcq zhB zcn St.add zaQ zbI rowsOf zdJ zcD zak zac zaa zbn zdb zba entry zbK zbT valD zb3 zcx zhn zdl zdm zbU zbM zav zaX zbr delAll effD St.effS zc8 zbg za5 zda zbh za7 zcc za6 zaW zcd zcX zbD zb7 zbp zb5 zb6 zaJ mkD zbV zbB zbL zav zco D.ids Op.operands Call.operands zbG makeIfD makeFuncD typeAssertD zhZ zdx zdy zhD zcA IntKind.bits zcL List.take_of_length_le List.range_succ
attribute [local irreducible] V G H HD HD2 HD4 zkz RetX zao Eff CallP CallV EndOK Fun Ret FinOK LoopI LoopW EndW
abbrev zee (e : Exp) : D := .u (.agg e.row)
abbrev ziB (n : Int) : D := .u (.int .i64 n)
theorem zaB {i nx : Nat} (h : i < nx) : ¬ i = nx /\ ¬ nx = i /\ (∀ k, ¬ i = nx + k) /\ ∀ k, ¬ nx + k = i := ⟨by omega, by omega, fun k => by omega, fun k => by omega⟩
theorem zoL (l : List Tok) (p : Nat) (i nx : Nat) (hi : i < nx) (hp : p < l.length) (hl : TokOK l) :
  RetX Tryz.prog 143 [.ptr i 0] [(i, pOb l p)] nx (PPost l i nx ziB (zgC l p)) := by
 have hne := zaB hi;have hh1 := fun nx' (h : nx <= nx') => zbk l p [99, 111, 105, 110, 115] i nx' (by omega) hp hl.len;have hh2 := fun nx' (h : nx <= nx') => zbk l p [100, 97, 121, 115] i nx' (by omega) hp hl.len;have hh3 := fun nx' (h : nx <= nx') => zbk l p [112, 101, 114] i nx' (by omega) hp hl.len;unfold zgC;by_cases h1 : isB l p [99, 111, 105, 110, 115] = true
 ·simp only [h1, if_true] at hh1 ⊢
  (refine RetX.of_bodyW Tryz.func143 rfl (by simp) fun Γ hn hpan => ?_); simp only [entry, ziC, ziN, maC, maN, oA, Tryz.ntmps143]
  repeat' (first
  | ((first | refine zae ?_ | refine zaj ?_ | refine zah ?_ | refine zai ?_ | fail); simp [hne])
  | (refine zaq ?_; simp only [zao])
  | (refine CallP.ok1 (hh1 _ (by first | omega | simp <;> omega | fail)) (by first | (simp [hne, zaa, getK, zab, zac]; done) | fail) (by rfl) (by rfl) ?_; (try simp [hne]))
  | fail)
  (refine EndW.here ?_; (first | (refine EndOK.fin (.inr rfl) ?_) | (refine EndOK.fin (.inl rfl) ?_)); simp [zaG, zaf, Tryz.results143]; refine FinOK.here (by simp) ?_; try simp)
  exact PPost.zcm rfl rfl (by first | rfl | simp [del])
 ·simp only [h1, Bool.false_eq_true, if_false] at hh1 ⊢;by_cases h2 : isB l p [100, 97, 121, 115] = true
  ·simp only [h2, if_true] at hh2 ⊢
   (refine RetX.of_bodyW Tryz.func143 rfl (by simp) fun Γ hn hpan => ?_); simp only [entry, ziC, ziN, maC, maN, oA, Tryz.ntmps143]
   repeat' (first
  | ((first | refine zae ?_ | refine zaj ?_ | refine zah ?_ | refine zai ?_ | fail); simp [hne])
  | (refine zaq ?_; simp only [zao])
  | (refine CallP.ok1 (hh1 _ (by first | omega | simp <;> omega | fail)) (by first | (simp [hne, zaa, getK, zab, zac]; done) | fail) (by rfl) (by rfl) ?_; (try simp [hne]))
  | (refine CallP.ok1 (hh2 _ (by first | omega | simp <;> omega | fail)) (by first | (simp [hne, zaa, getK, zab, zac]; done) | fail) (by rfl) (by rfl) ?_; (try simp [hne]))
  | fail)
   (refine EndW.here ?_; (first | (refine EndOK.fin (.inr rfl) ?_) | (refine EndOK.fin (.inl rfl) ?_)); simp [zaG, zaf, Tryz.results143]; refine FinOK.here (by simp) ?_; try simp)
   exact PPost.zcm rfl rfl (by first | rfl | simp [del])
  ·simp only [h2, Bool.false_eq_true, if_false] at hh2 ⊢;by_cases h3 : isB l p [112, 101, 114] = true
   ·simp only [h3, if_true] at hh3 ⊢;have hw := fun nx' (h : nx <= nx') => zh9 l (p + 1) [[109, 105, 108, 108, 101]] i nx' (by omega) (zbd hl h3) hl (by simp);cases hr : zbt l (p + 1) [[109, 105, 108, 108, 101]] with
    | ok a q =>
     simp only [hr, List.map_cons, List.map_nil] at hw
     (refine RetX.of_bodyW Tryz.func143 rfl (by simp) fun Γ hn hpan => ?_); simp only [entry, ziC, ziN, maC, maN, oA, Tryz.ntmps143]
     repeat' (first
  | ((first | refine zae ?_ | refine zaj ?_ | refine zah ?_ | refine zai ?_ | fail); simp [hne])
  | (refine zaq ?_; simp only [zao])
  | (refine CallP.ok1 (hh1 _ (by first | omega | simp <;> omega | fail)) (by first | (simp [hne, zaa, getK, zab, zac]; done) | fail) (by rfl) (by rfl) ?_; (try simp [hne]))
  | (refine CallP.ok1 (hh2 _ (by first | omega | simp <;> omega | fail)) (by first | (simp [hne, zaa, getK, zab, zac]; done) | fail) (by rfl) (by rfl) ?_; (try simp [hne]))
  | (refine CallP.ok1 (hh3 _ (by first | omega | simp <;> omega | fail)) (by first | (simp [hne, zaa, getK, zab, zac]; done) | fail) (by rfl) (by rfl) ?_; (try simp [hne]))
  | (refine CallP.ok1 (hw _ (by first | omega | simp <;> omega | fail)) (by first | (simp [hne, zaa, getK, zab, zac]; done) | fail) (by rfl) (by rfl) ?_; (try simp [hne]))
  | (refine zas (by first | rfl | fail) ?_; simp [hne, frzN, frz1, zaA, zaz, St.frz, St.frzS, frzS, fv, zaF, zbb, zbe, zaE, zau, zal, del, frz, zbf])
  | fail)
     (refine EndW.wk { n := _, env := [(2, ziB 4)], obs := [(i, pOb l q)], next := nx } (Wk.cut rfl (by simp [hn]) (by simp [wkO, zaa, getK, zab, zac, Ob.under, D.under, zad, zag, hne, hi]) (by simp [wkU, zan, zaa, getK, D.under, hne, hi]) (by simp [wkE, zan, zaa, getK, hne, hi])) (EndW.here ?_); (first | (refine EndOK.fin (.inr rfl) ?_) | (refine EndOK.fin (.inl rfl) ?_)); simp [zaG, zaf, Tryz.results143]; refine FinOK.here (by simp) ?_; try simp)
     exact PPost.zcm rfl rfl (by first | rfl | simp [del])
    | stop pos e =>
     simp only [hr, List.map_cons, List.map_nil] at hw
     (refine RetX.of_bodyW Tryz.func143 rfl (by simp) fun Γ hn hpan => ?_); simp only [entry, ziC, ziN, maC, maN, oA, Tryz.ntmps143]
     repeat' (first
  | ((first | refine zae ?_ | refine zaj ?_ | refine zah ?_ | refine zai ?_ | fail); simp [hne])
  | (refine CallP.ok1 (hh1 _ (by first | omega | simp <;> omega | fail)) (by first | (simp [hne, zaa, getK, zab, zac]; done) | fail) (by rfl) (by rfl) ?_; (try simp [hne]))
  | (refine CallP.ok1 (hh2 _ (by first | omega | simp <;> omega | fail)) (by first | (simp [hne, zaa, getK, zab, zac]; done) | fail) (by rfl) (by rfl) ?_; (try simp [hne]))
  | (refine CallP.ok1 (hh3 _ (by first | omega | simp <;> omega | fail)) (by first | (simp [hne, zaa, getK, zab, zac]; done) | fail) (by rfl) (by rfl) ?_; (try simp [hne]))
  | (refine CallP.zei (hw _ (by first | omega | simp <;> omega | fail)) (by first | (simp [hne, zaa, getK, zab, zac]; done) | fail) (by rfl) (by first | assumption | (simp; done) | fail) (by rfl) (by simp) ?_; rintro ob' ⟨q', rfl⟩; refine ⟨_, Wk.refl _, ?_⟩)
  | (refine zas (by first | rfl | fail) ?_; simp [hne, frzN, frz1, zaA, zaz, St.frz, St.frzS, frzS, fv, zaF, zbb, zbe, zaE, zau, zal, del, frz, zbf])
  | fail)
     (refine hpan _ _ ⟨{ n := _, env := [], obs := [(i, pOb l q')], next := nx }, (Wk.cut rfl (by simp [hn]) (by simp [wkO, zaa, getK, zab, zac, Ob.under, D.under, zad, zag, hi, zab, zac, zaa, getK]) (by simp [wkU, zan, zaa, getK, D.under, hi, zab, zac, zaa, getK]) (by simp [wkE, zan, zaa, getK, hi, zab, zac, zaa, getK])), by simp [hn], ?_⟩; try simp)
     exact PPost.zay rfl
   ·simp only [h3, Bool.false_eq_true, if_false] at hh3 ⊢
    (refine RetX.of_bodyW Tryz.func143 rfl (by simp) fun Γ hn hpan => ?_); simp only [entry, ziC, ziN, maC, maN, oA, Tryz.ntmps143]
    repeat' (first
  | ((first | refine zae ?_ | refine zaj ?_ | refine zah ?_ | refine zai ?_ | fail); simp [hne])
  | ((first | refine zaq ?_ | refine zap ?_ | fail); simp only [zao])
  | (refine CallP.ok1 (hh1 _ (by first | omega | simp <;> omega | fail)) (by first | (simp [hne, zaa, getK, zab, zac]; done) | fail) (by rfl) (by rfl) ?_; (try simp [hne]))
  | (refine CallP.ok1 (hh2 _ (by first | omega | simp <;> omega | fail)) (by first | (simp [hne, zaa, getK, zab, zac]; done) | fail) (by rfl) (by rfl) ?_; (try simp [hne]))
  | (refine CallP.ok1 (hh3 _ (by first | omega | simp <;> omega | fail)) (by first | (simp [hne, zaa, getK, zab, zac]; done) | fail) (by rfl) (by rfl) ?_; (try simp [hne]))
  | fail)
    (refine EndW.here ?_; (first | (refine EndOK.fin (.inr rfl) ?_) | (refine EndOK.fin (.inl rfl) ?_)); simp [zaG, zaf, Tryz.results143]; refine FinOK.here (by simp) ?_; try simp)
    exact PPost.zcm rfl rfl (by first | rfl | simp [del])
end Go.Proofs.YthnemhfamhnfjaaGreatDoor
namespace Go.Proofs.YthnemhfamhnfjaaGreatDoor
open Go Go.VL Go.Shelf Go.RowKit
attribute [local simp] HS zc2 zck evPure opd uOf zaH St.put St.at getK binD binI binS binB nilD aggD zhr zh0 lookD lookR zcz Go.VL.nextD zcC ziz zia zgs zcu mkV zdn zbo zby mapEff zeb zgf Key.kk shiftI arith unD convD zdO loadD cellsAt fieldAddrD fieldD indexAddrD indexD sliceD cutD lenD minmaxD nilCheckD buildD fillD zbR zdd zeM setAll zcK zeS zcq zhB zcn St.add zaQ zbI rowsOf zdJ zcD zak zac zaa zbn zdb zba entry zbK zbT valD zb3 zcx zhn zdl zdm zbU zbM zav zaX zbr delAll effD St.effS zc8 zbg za5 zda zbh za7 zcc za6 zaW zcd zcX zbD zb7 zbp zb5 zb6 zaJ mkD zbV zbB zbL zav zco D.ids Op.operands Call.operands zbG makeIfD makeFuncD typeAssertD zhZ zdx zdy zhD zcA IntKind.bits zcL List.take_of_length_le List.range_succ
attribute [local irreducible] V G H HD HD2 HD4 zkz RetX zao Eff CallP CallV EndOK Fun Ret FinOK LoopI LoopW EndW
theorem zlK : zkY Tryz.prog 74 9 = some u8T := by kernel_rfl
theorem zlT (l s : W8) (i j nx : Nat) (hi : i < nx) (hj : j < nx) (hij : i ≠ j) (hlen : l.length + s.length <= 140737488355328) :
  RetX Tryz.prog 53 [.ptr i 0, .u (.str s)] [(i, .box [.ptr i 0, .vec j l.length]), (j, .vec u8T 1 (zcp l))] nx
   (fun r o n => r = .val (.tup [.u (.int .i64 s.length), .u (.oth .nilIface)]) /\ o = [(i, .box [.ptr i 0, .vec nx (l.length + s.length)]), (nx, .vec u8T 1 (zcp (l ++ s)))] /\ n = nx + 1) := by
 have hne := zaB hi;have hne2 := zaB hj;have hcp := fun nx' (h : nx <= nx') => zon i nx' (by omega) (.vec j l.length);have hbi := zlK;have hca : zam Tryz.prog 108 = true := by kernel_rfl
 have hbl := zmP l;rw [show zcp (l ++ s) = rowsD (zdW l ++ zdW s) by rw [zcp, zmQ]]
 (refine RetX.of_bodyW Tryz.func53 rfl (by simp) fun Γ hn hpan => ?_); simp only [entry, ziC, ziN, maC, maN, oA, Tryz.ntmps53]
 repeat' (first
  | (refine zkt ?_; simp [zfw, hne, hne2, hij, Ne.symm hij, del, hbi, hbl, hlen])
  | ((first | refine zae ?_ | refine zaj ?_ | refine zah ?_ | fail); simp [hne, hne2, hij, Ne.symm hij, del, hbi, hbl, hlen])
  | (refine zaq ?_; simp only [zao])
  | (refine CallP.ok1 (hcp _ (by first | omega | simp <;> omega | fail)) (by first | (simp [hne, hne2, hij, Ne.symm hij, del, hbi, hbl, hlen, zaa, getK, zab, zac]; done) | fail) (by rfl) (by rfl) ⟨by first | assumption | (simp; done) | fail, by simp, ?_⟩; (try simp [hne, hne2, hij, Ne.symm hij, del, hbi, hbl, hlen]))
  | fail)
 (refine EndW.here ?_; (first | (refine EndOK.fin (.inr rfl) ?_) | (refine EndOK.fin (.inl rfl) ?_)); simp [zaG, zaf, Tryz.results53, hne, hne2, hi, hj, hij, Ne.symm hij]; refine FinOK.cut [(i, .box [.ptr i 0, .vec nx (l.length + s.length)]), (nx, .vec u8T 1 (rowsD (zdW l) ++ rowsD (zdW s)))] (nx + 1) (by simp [zaa, getK, zab, zac, Ob.under, D.under, zad, zag, hne, hne2, hi, hj, hij, Ne.symm hij] <;> omega) (by simp [D.under]) (by simp [hn]) ?_; try simp)
theorem zm0 (s : W8) (i nx : Nat) (hi : i < nx) (hlen : s.length <= 140737488355328) :
  RetX Tryz.prog 53 [.ptr i 0, .u (.str s)] [(i, .nw bT)] nx
   (fun r o n => r = .val (.tup [.u (.int .i64 s.length), .u (.oth .nilIface)]) /\ o = [(i, .box [.ptr i 0, .vec (nx + 1) s.length]), (nx + 1, .vec u8T 1 (zcp s))] /\ n = nx + 2) := by
 have hne := zaB hi;have hcp := fun nx' (h : nx <= nx') => zps i nx' (by omega);have hbi := zlK;have hca : zam Tryz.prog 108 = true := by kernel_rfl
 (refine RetX.of_bodyW Tryz.func53 rfl (by simp) fun Γ hn hpan => ?_); simp only [entry, ziC, ziN, maC, maN, oA, Tryz.ntmps53]
 repeat' (first
  | (refine zkt ?_; simp [zfw, hne, del, hbi, hlen])
  | ((first | refine zae ?_ | refine zaj ?_ | refine zah ?_ | fail); simp [hne, del, hbi, hlen])
  | (refine zaq ?_; simp only [zao])
  | (refine CallP.okL (hcp _ (by first | omega | simp <;> omega | fail)) (by first | (simp [hne, del, hbi, hlen, zaa, getK, zab, zac, zak, zaJ, del]; done) | fail) (by rfl) (by rfl) ⟨by first | assumption | (simp; done) | fail, by simp, ?_⟩; (try simp [hne, del, hbi, hlen, zcW, del]))
  | fail)
 (refine EndW.here ?_; (first | (refine EndOK.fin (.inr rfl) ?_) | (refine EndOK.fin (.inl rfl) ?_)); simp [zaG, zaf, Tryz.results53, hne, hi]; refine FinOK.cut [(i, .box [.ptr i 0, .vec (nx + 1) s.length]), (nx + 1, .vec u8T 1 (zcp s))] (nx + 2) (by simp [zaa, getK, zab, zac, Ob.under, D.under, zad, zag, hne, hi] <;> omega) (by simp [D.under]) (by simp [hn]) ?_; try simp)
def zbz (ws : List W8) : W8 := zbs ws ++ [32, 59, 10]
theorem znL (l : W8) (ws : List W8) (i j nx : Nat) (hi : i < nx) (hj : j < nx) (hij : i ≠ j) (hlen : l.length + (zbz ws).length <= 140737488355328) (hN : ws.length <= 140737488355328) :
  RetX Tryz.prog 52 [.u (.sl (ws.map fun w => [.str w])), .ptr i 0] [(i, .box [.ptr i 0, .vec j l.length]), (j, .vec u8T 1 (zcp l))] nx
   (fun r o n => r = .val (.tup []) /\ o = [(i, .box [.ptr i 0, .vec nx (l ++ zbz ws).length]), (nx, .vec u8T 1 (zcp (l ++ zbz ws)))] /\ n = nx + 1) := by
 have hne := zaB hi;have hne2 := zaB hj;have hjl : (zbs ws).length <= 140737488355328 := by simp only [zbz, List.length_append] at hlen; omega
 have hjn := zlw ws hjl hN;have hwr := fun nx' (h : nx <= nx') => zlT l (zbz ws) i j nx' (by omega) (by omega) hij hlen;have hca : zam Tryz.prog 53 = true := by kernel_rfl
 rw [List.length_append];have hlt : zbs ws ++ [32, 59, 10] = zbz ws := rfl;generalize zbz ws = T at *;clear hlen
 (refine RetX.of_bodyW Tryz.func52 rfl (by simp) fun Γ hn hpan => ?_); simp only [entry, ziC, ziN, maC, maN, oA, Tryz.ntmps52]
 repeat' (first
  | ((first | refine zae ?_ | refine zaj ?_ | fail); simp [hne, hne2, hij, Ne.symm hij, del, hlt])
  | (refine ⟨by omega, ?_⟩)
  | (refine zax ?_; simp [hne, hne2, hij, Ne.symm hij, del, hlt])
  | (refine CallP.fE (hjn) (by first | rfl | fail) (by first | simp [hne, hne2, hij, Ne.symm hij, del, hlt] <;> rfl | fail) ⟨by first | assumption | (simp; done) | fail, by simp, ?_⟩; (try simp [hne, hne2, hij, Ne.symm hij, del, hlt]))
  | (refine CallP.okL (hwr _ (by first | omega | simp <;> omega | fail)) (by first | (simp [hne, hne2, hij, Ne.symm hij, del, hlt, zaa, getK, zab, zac, zak, zaJ, del]; done) | fail) (by rfl) (by rfl) ⟨by first | assumption | (simp; done) | fail, by simp, ?_⟩; (try simp [hne, hne2, hij, Ne.symm hij, del, hlt, zcW, del]))
  | fail)
 (refine EndW.here ?_; (first | (refine EndOK.fin (.inr rfl) ?_) | (refine EndOK.fin (.inl rfl) ?_)); simp [zaG, zaf, Tryz.results52, hne, hne2, hi, hj, hij, Ne.symm hij]; refine FinOK.cut [(i, .box [.ptr i 0, .vec nx (l.length + T.length)]), (nx, .vec u8T 1 (zcp (l ++ T)))] (nx + 1) (by simp [zaa, getK, zab, zac, Ob.under, D.under, zad, zag, hne, hne2, hi, hj, hij, Ne.symm hij] <;> omega) (by simp [D.under]) (by simp [hn]) ?_; try simp)
theorem zgr (ws : List W8) (i nx : Nat) (hi : i < nx) (hlen : (zbz ws).length <= 140737488355328) (hN : ws.length <= 140737488355328) :
  RetX Tryz.prog 52 [.u (.sl (ws.map fun w => [.str w])), .ptr i 0] [(i, .nw bT)] nx
   (fun r o n => r = .val (.tup []) /\ o = [(i, .box [.ptr i 0, .vec (nx + 1) (zbz ws).length]), (nx + 1, .vec u8T 1 (zcp (zbz ws)))] /\ n = nx + 2) := by
 have hne := zaB hi;have hjl : (zbs ws).length <= 140737488355328 := by simp only [zbz, List.length_append] at hlen; omega
 have hjn := zlw ws hjl hN;have hwr := fun nx' (h : nx <= nx') => zm0 (zbz ws) i nx' (by omega) hlen;have hca : zam Tryz.prog 53 = true := by kernel_rfl
 have hlt : zbs ws ++ [32, 59, 10] = zbz ws := rfl;generalize zbz ws = T at *;clear hlen
 (refine RetX.of_bodyW Tryz.func52 rfl (by simp) fun Γ hn hpan => ?_); simp only [entry, ziC, ziN, maC, maN, oA, Tryz.ntmps52]
 repeat' (first
  | ((first | refine zae ?_ | refine zaj ?_ | fail); simp [hne, del, hlt])
  | (refine ⟨by omega, ?_⟩)
  | (refine zax ?_; simp [hne, del, hlt])
  | (refine CallP.fE (hjn) (by first | rfl | fail) (by first | simp [hne, del, hlt] <;> rfl | fail) ⟨by first | assumption | (simp; done) | fail, by simp, ?_⟩; (try simp [hne, del, hlt]))
  | (refine CallP.okL (hwr _ (by first | omega | simp <;> omega | fail)) (by first | (simp [hne, del, hlt, zaa, getK, zab, zac, zak, zaJ, del]; done) | fail) (by rfl) (by rfl) ⟨by first | assumption | (simp; done) | fail, by simp, ?_⟩; (try simp [hne, del, hlt, zcW, del]))
  | fail)
 (refine EndW.here ?_; (first | (refine EndOK.fin (.inr rfl) ?_) | (refine EndOK.fin (.inl rfl) ?_)); simp [zaG, zaf, Tryz.results52, hne, hi]; refine FinOK.cut [(i, .box [.ptr i 0, .vec (nx + 1) T.length]), (nx + 1, .vec u8T 1 (zcp T))] (nx + 2) (by simp [zaa, getK, zab, zac, Ob.under, D.under, zad, zag, hne, hi] <;> omega) (by simp [D.under]) (by simp [hn]) ?_; try simp)
end Go.Proofs.YthnemhfamhnfjaaGreatDoor
namespace Go.Proofs.YthnemhfamhnfjaaGreatDoor
open Go Go.VL
attribute [local simp] HS zc2 zck evPure opd uOf zaH St.put St.at getK binD binI binS binB nilD aggD zhr zh0 lookD lookR zcz Go.VL.nextD zcC ziz zia zgs zcu mkV zdn zbo zby mapEff zeb zgf Key.kk shiftI arith unD convD zdO loadD cellsAt fieldAddrD fieldD indexAddrD indexD sliceD cutD lenD minmaxD nilCheckD buildD fillD zbR zdd zeM setAll zcK zeS zcq zhB zcn St.add zaQ zbI rowsOf zdJ zcD zak zac zaa zbn zdb zba entry zbK zbT valD zb3 zcx zhn zdl zdm zbU zbM zav zaX zbr delAll effD St.effS zc8 zbg za5 zda zbh za7 zcc za6 zaW zcd zcX zbD zb7 zbp zb5 zb6 zaJ mkD zbV zbB zbL zav zco D.ids Op.operands Call.operands zbG makeIfD makeFuncD typeAssertD zhZ zdx zdy zhD zcA IntKind.bits zcL List.take_of_length_le List.range_succ
attribute [local irreducible] V G H HD HD2 HD4 zkz RetX zao Eff CallP CallV EndOK Fun Ret FinOK LoopI LoopW EndW
abbrev zjE (e : Exp × Int) : D := .tup [.u (.agg e.1.row), .u (.int .i64 e.2)]
def zgl (l : List Tok) (f : Nat) : Prop := ∀ (p : Nat) (form : Int) (i nx : Nat), i < nx -> p < l.length -> 4 * (l.length - p) + 3 <= f -> 0 <= form -> form <= 7 ->
 RetX Tryz.prog 41 [.ptr i 0, ziB form] [(i, pOb l p)] nx (PPost l i nx zee (zc4 l f p form))
def zqK (l : List Tok) (f : Nat) : Prop := ∀ (p : Nat) (form : Int) (i nx : Nat), i < nx -> p < l.length -> 4 * (l.length - p) + 2 <= f -> 0 <= form -> form <= 7 ->
 RetX Tryz.prog 95 [.ptr i 0, ziB form] [(i, pOb l p)] nx (PPost l i nx zjE (zaZ l f p form))
def zh6 (l : List Tok) (f : Nat) : Prop := ∀ (p : Nat) (i nx : Nat), i < nx -> p < l.length -> 4 * (l.length - p) + 1 <= f ->
 RetX Tryz.prog 133 [.ptr i 0] [(i, pOb l p)] nx (PPost l i nx zee (zaL l f p))
theorem zeW {l : List Tok} (hl : TokOK l) (w : List UInt8) {q i nx : Nat} (hi : i < nx) (hq : q < l.length) :
  RetX Tryz.prog 83 [.ptr i 0, .u (.sl [[.str w]])] [(i, pOb l q)] nx (PPost l i nx (fun _ => .tup []) (zbt l q [w])) := zh9 l q [w] i nx hi hq hl (by simp)
theorem zkF {l : List Tok} (hl : TokOK l) {f p : Nat} {t : Tok} (ht : l[p]? = some t) (hk : t.kind = 2) {i nx : Nat} (hi : i < nx) :
  RetX Tryz.prog 133 [.ptr i 0] [(i, pOb l p)] nx (PPost l i nx zee (zaL l (f + 1) p)) := by
 have hne := zaB hi;have hp := (lGE.1 ht).1;have hnx := zbW l p t ht hl.len;have hp2 := hl.fin p t ht (by omega);have hll := hl.len;rw [zaL, ht];simp only [hk, if_true] at hnx ⊢;have hu := fun nx' (h : nx <= nx') => zoL l (p + 1) i nx' (by omega) hp2 hl;cases hr : zgC l (p + 1) with
 | ok a q =>
  simp only [hr] at hu
  (refine RetX.of_bodyW Tryz.func133 rfl (by simp) fun Γ hn hpan => ?_); simp only [entry, ziC, ziN, maC, maN, oA, Tryz.ntmps133]
  repeat' (first
  | (refine zhq (fun nx' h' => hu nx' (by simp at h'; omega)) (by first | (simp [hne, zaa, getK, zab, zac, zak, zaJ]; done) | fail) (by rfl) (by first | assumption | simp) (by rfl) (by simp [D.under, Ob.under]) (by simp) ?_; (try simp [hne]))
  | ((first | refine zae ?_ | refine zaU rfl ?_ | refine zbJ rfl ?_ | refine zaj ?_ | fail); simp [hne])
  | (refine ⟨by omega, ?_⟩)
  | ((first | refine zah ?_ | refine zai ?_ | fail); simp [hne])
  | (refine za8 (hC _ (zcf [i] nx (by simp <;> omega) (by simp <;> omega) (by apply Exists.intro; apply And.intro; (focus (repeat' (first | exact KF.nil | exact KL.nil | apply KF.cons | apply KL.cons 0 rfl | apply KL.cons 1 rfl | apply KL.cons 2 rfl | apply KL.cons 3 rfl | apply KL.cons 4 rfl | apply KL.cons 5 rfl | apply KL.cons 6 rfl | apply KL.cons 7 rfl | apply KL.cons 8 rfl | apply KL.cons 9 rfl))); kernel_rfl))) (hk _ ?_); clear hC hk C k; simp only [zao])
  | (refine za9 rfl (by kernel_rfl) (by first | (simp [hn]; done) | (simp [hn]; omega) | fail) fun C k hC hk => ?_; simp [hne])
  | (refine zaq ?_; simp only [zao])
  | (refine CallP.fE (hnx) (by first | rfl | fail) (by first | simp [hne] <;> rfl | fail) ?_; (try simp [hne]))
  | fail)
  refine EndW.norm ?_;simp [St.norm, zbj, zbX, zci, zcj, hne]
  (refine EndW.here ?_; (first | (refine EndOK.fin (.inr rfl) ?_) | (refine EndOK.fin (.inl rfl) ?_)); simp [zaG, zaf, Tryz.results133, hne, hi]; refine FinOK.cut [(i, pOb l q)] (nx) (by simp [zaa, getK, zab, zac, Ob.under, D.under, zad, zag, hne, hi] <;> omega) (by simp [D.under]) (by simp [hn]) ?_; try simp)
  exact PPost.zcm rfl (by simp [Exp.row]) rfl
 | stop pos e =>
  simp only [hr] at hu
  (refine RetX.of_bodyW Tryz.func133 rfl (by simp) fun Γ hn hpan => ?_); simp only [entry, ziC, ziN, maC, maN, oA, Tryz.ntmps133]
  repeat' (first
  | (refine zfy (fun nx' h' => hu nx' (by simp at h'; omega)) (by first | (simp [hne, zaa, getK, zab, zac, zak, zaJ]; done) | fail) (by rfl) (by first | assumption | simp) (by rfl) (by simp) ?_ ?_; rintro env' ob' n' hn' ⟨q', rfl⟩; refine ⟨_, Wk.refl _, ?_⟩)
  | (refine zez rfl (by simp) ?_; simp)
  | ((first | refine zae ?_ | refine zaU rfl ?_ | refine zaj ?_ | fail); simp [hne])
  | (refine ⟨by omega, ?_⟩)
  | ((first | refine zah ?_ | refine zai ?_ | fail); simp [hne])
  | (refine zfz (hC _ (zcf [i] nx (by simp <;> omega) (by simp <;> omega) (by apply Exists.intro; apply And.intro; (focus (repeat' (first | exact KF.nil | exact KL.nil | apply KF.cons | apply KL.cons 0 rfl | apply KL.cons 1 rfl | apply KL.cons 2 rfl | apply KL.cons 3 rfl | apply KL.cons 4 rfl | apply KL.cons 5 rfl | apply KL.cons 6 rfl | apply KL.cons 7 rfl | apply KL.cons 8 rfl | apply KL.cons 9 rfl))); kernel_rfl))) rfl; done)
  | (refine za9 rfl (by kernel_rfl) (by first | (simp [hn]; done) | (simp [hn]; omega) | fail) fun C k hC hk => ?_; simp [hne])
  | (refine CallP.fE (hnx) (by first | rfl | fail) (by first | simp [hne] <;> rfl | fail) ?_; (try simp [hne]))
  | fail)
  (refine hpan _ _ ⟨{ n := _, env := [], obs := [(i, pOb l q')], next := nx }, (Wk.cut rfl (by simp [hn]) (by simp [wkO, zaa, getK, zab, zac, Ob.under, D.under, zad, zag, hi, hne, zab, zac, zaa, getK]) (by simp [wkU, zan, zaa, getK, D.under, hi, hne, zab, zac, zaa, getK]) (by simp [wkE, zan, zaa, getK, hi, hne, zab, zac, zaa, getK])), by simp [hn], ?_⟩; try simp)
  exact PPost.zay (by simp [PR.bind])
theorem zjo {l : List Tok} (hl : TokOK l) {f p : Nat} {t : Tok} (ht : l[p]? = some t) (hk : ¬ t.kind = 2) (h1 : isB l p [116, 114, 117, 101] = true) {i nx : Nat} (hi : i < nx) :
  RetX Tryz.prog 133 [.ptr i 0] [(i, pOb l p)] nx (PPost l i nx zee (zaL l (f + 1) p)) := by
 have hne := zaB hi;have hp := (lGE.1 ht).1;have hnx := zbW l p t ht hl.len;have hll := hl.len;rw [zaL, ht];have hh1 := fun nx' (h : nx <= nx') => zbk l p [116, 114, 117, 101] i nx' (by omega) hp hl.len;simp only [hk, h1, if_false, if_true] at hh1 ⊢
 (refine RetX.of_bodyW Tryz.func133 rfl (by simp) fun Γ hn hpan => ?_); simp only [entry, ziC, ziN, maC, maN, oA, Tryz.ntmps133]
 repeat' (first
  | ((first | refine zae ?_ | refine zaj ?_ | refine zah ?_ | refine zai ?_ | fail); simp [hne, hk, del])
  | (refine zaq ?_; simp only [zao])
  | (refine CallP.fE (hnx) (by first | rfl | fail) (by first | simp [hne, hk, del] <;> rfl | fail) ?_; (try simp [hne, hk, del]))
  | (refine CallP.ok1 (hh1 _ (by first | omega | simp <;> omega | fail)) (by first | (simp [hne, hk, del, zaa, getK, zab, zac]; done) | fail) (by rfl) (by rfl) ?_; (try simp [hne, hk, del]))
  | fail)
 refine EndW.norm ?_;simp [St.norm, zbj, zbX, zci, zcj, hne]
 (refine EndW.here ?_; (first | (refine EndOK.fin (.inr rfl) ?_) | (refine EndOK.fin (.inl rfl) ?_)); simp [zaG, zaf, Tryz.results133, hne, hi]; refine FinOK.cut [(i, pOb l (p + 1))] (nx) (by simp [zaa, getK, zab, zac, Ob.under, D.under, zad, zag, hne, hi] <;> omega) (by simp [D.under]) (by simp [hn]) ?_; try simp)
 exact PPost.zcm rfl (by simp [Exp.row]) rfl
theorem zim {l : List Tok} (hl : TokOK l) {f p : Nat} {t : Tok} (ht : l[p]? = some t) (hk : ¬ t.kind = 2) (h1 : isB l p [116, 114, 117, 101] = false) (h2 : isB l p [102, 97, 108, 115, 101] = true) {i nx : Nat} (hi : i < nx) :
  RetX Tryz.prog 133 [.ptr i 0] [(i, pOb l p)] nx (PPost l i nx zee (zaL l (f + 1) p)) := by
 have hne := zaB hi;have hp := (lGE.1 ht).1;have hnx := zbW l p t ht hl.len;have hll := hl.len;rw [zaL, ht];have hh1 := fun nx' (h : nx <= nx') => zbk l p [116, 114, 117, 101] i nx' (by omega) hp hl.len;have hh2 := fun nx' (h : nx <= nx') => zbk l p [102, 97, 108, 115, 101] i nx' (by omega) hp hl.len;simp only [hk, h1, h2, if_false, if_true, Bool.false_eq_true] at hh1 hh2 ⊢
 (refine RetX.of_bodyW Tryz.func133 rfl (by simp) fun Γ hn hpan => ?_); simp only [entry, ziC, ziN, maC, maN, oA, Tryz.ntmps133]
 repeat' (first
  | ((first | refine zae ?_ | refine zaj ?_ | refine zah ?_ | refine zai ?_ | fail); simp [hne, hk, del])
  | (refine zaq ?_; simp only [zao])
  | (refine CallP.fE (hnx) (by first | rfl | fail) (by first | simp [hne, hk, del] <;> rfl | fail) ?_; (try simp [hne, hk, del]))
  | (refine CallP.ok1 (hh1 _ (by first | omega | simp <;> omega | fail)) (by first | (simp [hne, hk, del, zaa, getK, zab, zac]; done) | fail) (by rfl) (by rfl) ?_; (try simp [hne, hk, del]))
  | (refine CallP.ok1 (hh2 _ (by first | omega | simp <;> omega | fail)) (by first | (simp [hne, hk, del, zaa, getK, zab, zac]; done) | fail) (by rfl) (by rfl) ?_; (try simp [hne, hk, del]))
  | fail)
 refine EndW.norm ?_;simp [St.norm, zbj, zbX, zci, zcj, hne]
 (refine EndW.here ?_; (first | (refine EndOK.fin (.inr rfl) ?_) | (refine EndOK.fin (.inl rfl) ?_)); simp [zaG, zaf, Tryz.results133, hne, hi]; refine FinOK.cut [(i, pOb l (p + 1))] (nx) (by simp [zaa, getK, zab, zac, Ob.under, D.under, zad, zag, hne, hi] <;> omega) (by simp [D.under]) (by simp [hn]) ?_; try simp)
 exact PPost.zcm rfl (by simp [Exp.row]) rfl
theorem zde {l : List Tok} {F : FuncId} {r : PR Exp} {e : Exp} {q i nx : Nat} {ds : List D} {obs : List (Nat × Ob)} (h : RetX Tryz.prog F ds obs nx (PPost l i nx zee r)) (hr : r = .ok e q) :
  RetX Tryz.prog F ds obs nx fun r o n => r = .val (.u (.agg [.int .i64 e.op, .int .i64 e.n, .int .i64 e.unit, .str e.s, .sl (e.args.map Exp.row)])) /\ o = [(i, pOb l q)] /\ n = nx := by
 subst hr;rw [<- Exp.row_eq];exact h
theorem zil {l : List Tok} (hl : TokOK l) {f p : Nat} (hE : zgl l f) (hf : 4 * (l.length - p) <= f) {t : Tok} (ht : l[p]? = some t) (hk : ¬ t.kind = 2) (h1 : isB l p [116, 114, 117, 101] = false) (h2 : isB l p [102, 97, 108, 115, 101] = false)
  (h3 : isB l p [109, 105, 110] = false) (h4 : isB l p [109, 97, 120] = false) (h5 : isB l p [40] = true) {i nx : Nat} (hi : i < nx) :
  RetX Tryz.prog 133 [.ptr i 0] [(i, pOb l p)] nx (PPost l i nx zee (zaL l (f + 1) p)) := by
 have hne := zaB hi;have hp := (lGE.1 ht).1;have hnx := zbW l p t ht hl.len;have hll := hl.len;have hp2 := zbd hl h5;rw [zaL, ht];have hh1 := fun nx' (h : nx <= nx') => zbk l p [116, 114, 117, 101] i nx' (by omega) hp hl.len;have hh2 := fun nx' (h : nx <= nx') => zbk l p [102, 97, 108, 115, 101] i nx' (by omega) hp hl.len;have hm1 := zed l p [109, 105, 110] hp hl.len;have hm2 := zed l p [109, 97, 120] hp hl.len;have hh3 := fun nx' (h : nx <= nx') => zbk l p [40] i nx' (by omega) hp hl.len;simp only [hk, h1, h2, h3, h4, h5, if_false, if_true, Bool.false_eq_true, or_self] at hh1 hh2 hm1 hm2 hh3 ⊢;have he := fun nx' (h : nx <= nx') => hE (p + 1) 0 i nx' (by omega) hp2 (by omega) (by omega) (by omega);cases hr : zc4 l f (p + 1) 0 with
 | stop pos e =>
  simp only [hr] at he
  (refine RetX.of_bodyW Tryz.func133 rfl (by simp) fun Γ hn hpan => ?_); simp only [entry, ziC, ziN, maC, maN, oA, Tryz.ntmps133]
  repeat' (first
  | ((first | refine zae ?_ | refine zaj ?_ | refine zah ?_ | refine zai ?_ | fail); simp [hne, hk, del, nAA])
  | (refine CallP.fE (hnx) (by first | rfl | fail) (by first | simp [hne, hk, del, nAA] <;> rfl | fail) ?_; (try simp [hne, hk, del, nAA]))
  | (refine CallP.fE (hm1) (by first | rfl | fail) (by first | simp [hne, hk, del, nAA] <;> rfl | fail) ?_; (try simp [hne, hk, del, nAA]))
  | (refine CallP.fE (hm2) (by first | rfl | fail) (by first | simp [hne, hk, del, nAA] <;> rfl | fail) ?_; (try simp [hne, hk, del, nAA]))
  | (refine CallP.ok1 (hh1 _ (by first | omega | simp <;> omega | fail)) (by first | (simp [hne, hk, del, nAA, zaa, getK, zab, zac]; done) | fail) (by rfl) (by rfl) ?_; (try simp [hne, hk, del, nAA]))
  | (refine CallP.ok1 (hh2 _ (by first | omega | simp <;> omega | fail)) (by first | (simp [hne, hk, del, nAA, zaa, getK, zab, zac]; done) | fail) (by rfl) (by rfl) ?_; (try simp [hne, hk, del, nAA]))
  | (refine CallP.ok1 (hh3 _ (by first | omega | simp <;> omega | fail)) (by first | (simp [hne, hk, del, nAA, zaa, getK, zab, zac]; done) | fail) (by rfl) (by rfl) ?_; (try simp [hne, hk, del, nAA]))
  | (refine CallP.zei (he _ (by first | omega | simp <;> omega | fail)) (by first | (simp [hne, hk, del, nAA, zaa, getK, zab, zac]; done) | fail) (by rfl) (by first | assumption | (simp; done) | fail) (by rfl) (by simp) ?_; rintro ob' ⟨q', rfl⟩; refine ⟨_, Wk.refl _, ?_⟩)
  | fail)
  (refine hpan _ _ ⟨{ n := _, env := [], obs := [(i, pOb l q')], next := nx }, (Wk.cut rfl (by simp [hn]) (by simp [wkO, zaa, getK, zab, zac, Ob.under, D.under, zad, zag, hi, hne, zab, zac, zaa, getK]) (by simp [wkU, zan, zaa, getK, D.under, hi, hne, zab, zac, zaa, getK]) (by simp [wkE, zan, zaa, getK, hi, hne, zab, zac, zaa, getK])), by simp [hn], ?_⟩; try simp)
  exact PPost.zay (by simp [PR.bind, *])
 | ok e1 q1 =>
  have he := fun nx' h => zde (he nx' h) hr;obtain ⟨g1, g2⟩ := (zce hl f).1 _ _ _ _ hr hp2;have hw := fun nx' (h : nx <= nx') => zeW hl [41] (q := q1) (i := i) (nx := nx') (by omega) g2;cases hr2 : zbt l q1 [[41]] with
  | stop pos e =>
   simp only [hr2] at hw
   (refine RetX.of_bodyW Tryz.func133 rfl (by simp) fun Γ hn hpan => ?_); simp only [entry, ziC, ziN, maC, maN, oA, Tryz.ntmps133]
   repeat' (first
  | ((first | refine zae ?_ | refine zaj ?_ | refine zah ?_ | refine zai ?_ | fail); simp [hne, hk, del, nAA])
  | (refine CallP.fE (hnx) (by first | rfl | fail) (by first | simp [hne, hk, del, nAA] <;> rfl | fail) ?_; (try simp [hne, hk, del, nAA]))
  | (refine CallP.fE (hm1) (by first | rfl | fail) (by first | simp [hne, hk, del, nAA] <;> rfl | fail) ?_; (try simp [hne, hk, del, nAA]))
  | (refine CallP.fE (hm2) (by first | rfl | fail) (by first | simp [hne, hk, del, nAA] <;> rfl | fail) ?_; (try simp [hne, hk, del, nAA]))
  | (refine CallP.ok1 (hh1 _ (by first | omega | simp <;> omega | fail)) (by first | (simp [hne, hk, del, nAA, zaa, getK, zab, zac]; done) | fail) (by rfl) (by rfl) ?_; (try simp [hne, hk, del, nAA]))
  | (refine CallP.ok1 (hh2 _ (by first | omega | simp <;> omega | fail)) (by first | (simp [hne, hk, del, nAA, zaa, getK, zab, zac]; done) | fail) (by rfl) (by rfl) ?_; (try simp [hne, hk, del, nAA]))
  | (refine CallP.ok1 (hh3 _ (by first | omega | simp <;> omega | fail)) (by first | (simp [hne, hk, del, nAA, zaa, getK, zab, zac]; done) | fail) (by rfl) (by rfl) ?_; (try simp [hne, hk, del, nAA]))
  | (refine CallP.ok1 (he _ (by first | omega | simp <;> omega | fail)) (by first | (simp [hne, hk, del, nAA, zaa, getK, zab, zac]; done) | fail) (by rfl) (by rfl) ?_; (try simp [hne, hk, del, nAA]))
  | (refine CallP.zei (hw _ (by first | omega | simp <;> omega | fail)) (by first | (simp [hne, hk, del, nAA, zaa, getK, zab, zac]; done) | fail) (by rfl) (by first | assumption | (simp; done) | fail) (by rfl) (by simp) ?_; rintro ob' ⟨q', rfl⟩; refine ⟨_, Wk.refl _, ?_⟩)
  | (refine zas (by first | rfl | fail) ?_; simp [hne, hk, del, nAA, frzN, frz1, zaA, zaz, St.frz, St.frzS, frzS, fv, zaF, zbb, zbe, zaE, zau, zal, del, frz, zbf])
  | fail)
   (refine hpan _ _ ⟨{ n := _, env := [], obs := [(i, pOb l q')], next := nx }, (Wk.cut rfl (by simp [hn]) (by simp [wkO, zaa, getK, zab, zac, Ob.under, D.under, zad, zag, hi, hne, zab, zac, zaa, getK]) (by simp [wkU, zan, zaa, getK, D.under, hi, hne, zab, zac, zaa, getK]) (by simp [wkE, zan, zaa, getK, hi, hne, zab, zac, zaa, getK])), by simp [hn], ?_⟩; try simp)
   exact PPost.zay (by simp [PR.bind, *])
  | ok u2 q =>
   simp only [hr2] at hw
   (refine RetX.of_bodyW Tryz.func133 rfl (by simp) fun Γ hn hpan => ?_); simp only [entry, ziC, ziN, maC, maN, oA, Tryz.ntmps133]
   repeat' (first
  | ((first | refine zae ?_ | refine zaj ?_ | refine zah ?_ | refine zai ?_ | fail); simp [hne, hk, del, nAA])
  | (refine zaq ?_; simp only [zao])
  | (refine CallP.fE (hnx) (by first | rfl | fail) (by first | simp [hne, hk, del, nAA] <;> rfl | fail) ?_; (try simp [hne, hk, del, nAA]))
  | (refine CallP.fE (hm1) (by first | rfl | fail) (by first | simp [hne, hk, del, nAA] <;> rfl | fail) ?_; (try simp [hne, hk, del, nAA]))
  | (refine CallP.fE (hm2) (by first | rfl | fail) (by first | simp [hne, hk, del, nAA] <;> rfl | fail) ?_; (try simp [hne, hk, del, nAA]))
  | (refine CallP.ok1 (hh1 _ (by first | omega | simp <;> omega | fail)) (by first | (simp [hne, hk, del, nAA, zaa, getK, zab, zac]; done) | fail) (by rfl) (by rfl) ?_; (try simp [hne, hk, del, nAA]))
  | (refine CallP.ok1 (hh2 _ (by first | omega | simp <;> omega | fail)) (by first | (simp [hne, hk, del, nAA, zaa, getK, zab, zac]; done) | fail) (by rfl) (by rfl) ?_; (try simp [hne, hk, del, nAA]))
  | (refine CallP.ok1 (hh3 _ (by first | omega | simp <;> omega | fail)) (by first | (simp [hne, hk, del, nAA, zaa, getK, zab, zac]; done) | fail) (by rfl) (by rfl) ?_; (try simp [hne, hk, del, nAA]))
  | (refine CallP.ok1 (he _ (by first | omega | simp <;> omega | fail)) (by first | (simp [hne, hk, del, nAA, zaa, getK, zab, zac]; done) | fail) (by rfl) (by rfl) ?_; (try simp [hne, hk, del, nAA]))
  | (refine CallP.ok1 (hw _ (by first | omega | simp <;> omega | fail)) (by first | (simp [hne, hk, del, nAA, zaa, getK, zab, zac]; done) | fail) (by rfl) (by rfl) ?_; (try simp [hne, hk, del, nAA]))
  | (refine zas (by first | rfl | fail) ?_; simp [hne, hk, del, nAA, frzN, frz1, zaA, zaz, St.frz, St.frzS, frzS, fv, zaF, zbb, zbe, zaE, zau, zal, del, frz, zbf])
  | fail)
   refine EndW.norm ?_;simp [St.norm, zbj, zbX, zci, zcj, hne]
   (refine EndW.here ?_; (first | (refine EndOK.fin (.inr rfl) ?_) | (refine EndOK.fin (.inl rfl) ?_)); simp [zaG, zaf, Tryz.results133, hne, hi]; refine FinOK.cut [(i, pOb l q)] (nx) (by simp [zaa, getK, zab, zac, Ob.under, D.under, zad, zag, hne, hi] <;> omega) (by simp [D.under]) (by simp [hn]) ?_; try simp)
   exact PPost.zcm (by simp [PR.bind, *]; rfl) (by simp [Exp.row_eq]) rfl
theorem zhH {l : List Tok} (hl : TokOK l) {f p : Nat} (hE : zgl l f) (hf : 4 * (l.length - p) <= f) {t : Tok} (ht : l[p]? = some t) (hk : ¬ t.kind = 2) (h1 : isB l p [116, 114, 117, 101] = false) (h2 : isB l p [102, 97, 108, 115, 101] = false)
  (hm : isB l p [109, 105, 110] = false /\ isB l p [109, 97, 120] = true \/ isB l p [109, 105, 110] = true /\ isB l p [109, 97, 120] = false) {i nx : Nat} (hi : i < nx) :
  RetX Tryz.prog 133 [.ptr i 0] [(i, pOb l p)] nx (PPost l i nx zee (zaL l (f + 1) p)) := by
 have hne := zaB hi;have hp := (lGE.1 ht).1;have hnx := zbW l p t ht hl.len;have hll := hl.len;have hp2 : p + 1 < l.length := hm.elim (fun h => zbd hl h.2) (fun h => zbd hl h.1);rw [zaL, ht];have hh1 := fun nx' (h : nx <= nx') => zbk l p [116, 114, 117, 101] i nx' (by omega) hp hl.len;have hh2 := fun nx' (h : nx <= nx') => zbk l p [102, 97, 108, 115, 101] i nx' (by omega) hp hl.len;have hm1 := zed l p [109, 105, 110] hp hl.len;have hm2 := zed l p [109, 97, 120] hp hl.len;rcases hm with ⟨h3, h4⟩ | ⟨h3, h4⟩
 all_goals
  simp only [hk, h1, h2, h3, h4, if_false, if_true, Bool.false_eq_true, or_true, true_or] at hh1 hh2 hm1 hm2 ⊢;have hw1 := fun nx' (h : nx <= nx') => zeW hl [40] (q := (p + 1)) (i := i) (nx := nx') (by omega) hp2;cases hr0 : zbt l (p + 1) [[40]] with
  | stop pos e =>
   simp only [hr0] at hw1
   (refine RetX.of_bodyW Tryz.func133 rfl (by simp) fun Γ hn hpan => ?_); simp only [entry, ziC, ziN, maC, maN, oA, Tryz.ntmps133]
   repeat' (first
  | ((first | refine zae ?_ | refine zaj ?_ | fail); simp [hne, hk, del, nAA])
  | (refine ⟨by omega, ?_⟩)
  | ((first | refine zah ?_ | refine zai ?_ | refine zax ?_ | fail); simp [hne, hk, del, nAA])
  | (refine zap ?_; simp only [zao])
  | (refine CallP.fE (hnx) (by first | rfl | fail) (by first | simp [hne, hk, del, nAA] <;> rfl | fail) ?_; (try simp [hne, hk, del, nAA]))
  | (refine CallP.fE (hm1) (by first | rfl | fail) (by first | simp [hne, hk, del, nAA] <;> rfl | fail) ?_; (try simp [hne, hk, del, nAA]))
  | (refine CallP.fE (hm2) (by first | rfl | fail) (by first | simp [hne, hk, del, nAA] <;> rfl | fail) ?_; (try simp [hne, hk, del, nAA]))
  | (refine CallP.ok1 (hh1 _ (by first | omega | simp <;> omega | fail)) (by first | (simp [hne, hk, del, nAA, zaa, getK, zab, zac]; done) | fail) (by rfl) (by rfl) ?_; (try simp [hne, hk, del, nAA]))
  | (refine CallP.ok1 (hh2 _ (by first | omega | simp <;> omega | fail)) (by first | (simp [hne, hk, del, nAA, zaa, getK, zab, zac]; done) | fail) (by rfl) (by rfl) ?_; (try simp [hne, hk, del, nAA]))
  | (refine CallP.zei (hw1 _ (by first | omega | simp <;> omega | fail)) (by first | (simp [hne, hk, del, nAA, zaa, getK, zab, zac]; done) | fail) (by rfl) (by first | assumption | (simp; done) | fail) (by rfl) (by simp) ?_; rintro ob' ⟨q', rfl⟩; refine ⟨_, Wk.refl _, ?_⟩)
  | (refine zas (by first | rfl | fail) ?_; simp [hne, hk, del, nAA, frzN, frz1, zaA, zaz, St.frz, St.frzS, frzS, fv, zaF, zbb, zbe, zaE, zau, zal, del, frz, zbf])
  | fail)
   (refine hpan _ _ ⟨{ n := _, env := [], obs := [(i, pOb l q')], next := nx }, (Wk.cut rfl (by simp [hn]) (by simp [wkO, zaa, getK, zab, zac, Ob.under, D.under, zad, zag, hi, hne, zab, zac, zaa, getK]) (by simp [wkU, zan, zaa, getK, D.under, hi, hne, zab, zac, zaa, getK]) (by simp [wkE, zan, zaa, getK, hi, hne, zab, zac, zaa, getK])), by simp [hn], ?_⟩; try simp)
   exact PPost.zay (by simp [PR.bind, *])
  | ok v0 q0 =>
   simp only [hr0] at hw1;obtain ⟨g0a, g0b⟩ := za2 hl _ hr0 hp2;have ha := fun nx' (h : nx <= nx') => hE q0 0 i nx' (by omega) g0b (by omega) (by omega) (by omega);cases hr1 : zc4 l f q0 0 with
   | stop pos e =>
    simp only [hr1] at ha
    (refine RetX.of_bodyW Tryz.func133 rfl (by simp) fun Γ hn hpan => ?_); simp only [entry, ziC, ziN, maC, maN, oA, Tryz.ntmps133]
    repeat' (first
  | ((first | refine zae ?_ | refine zaj ?_ | fail); simp [hne, hk, del, nAA])
  | (refine ⟨by omega, ?_⟩)
  | ((first | refine zah ?_ | refine zai ?_ | refine zax ?_ | fail); simp [hne, hk, del, nAA])
  | (refine zap ?_; simp only [zao])
  | (refine CallP.fE (hnx) (by first | rfl | fail) (by first | simp [hne, hk, del, nAA] <;> rfl | fail) ?_; (try simp [hne, hk, del, nAA]))
  | (refine CallP.fE (hm1) (by first | rfl | fail) (by first | simp [hne, hk, del, nAA] <;> rfl | fail) ?_; (try simp [hne, hk, del, nAA]))
  | (refine CallP.fE (hm2) (by first | rfl | fail) (by first | simp [hne, hk, del, nAA] <;> rfl | fail) ?_; (try simp [hne, hk, del, nAA]))
  | (refine CallP.ok1 (hh1 _ (by first | omega | simp <;> omega | fail)) (by first | (simp [hne, hk, del, nAA, zaa, getK, zab, zac]; done) | fail) (by rfl) (by rfl) ?_; (try simp [hne, hk, del, nAA]))
  | (refine CallP.ok1 (hh2 _ (by first | omega | simp <;> omega | fail)) (by first | (simp [hne, hk, del, nAA, zaa, getK, zab, zac]; done) | fail) (by rfl) (by rfl) ?_; (try simp [hne, hk, del, nAA]))
  | (refine CallP.ok1 (hw1 _ (by first | omega | simp <;> omega | fail)) (by first | (simp [hne, hk, del, nAA, zaa, getK, zab, zac]; done) | fail) (by rfl) (by rfl) ?_; (try simp [hne, hk, del, nAA]))
  | (refine CallP.zei (ha _ (by first | omega | simp <;> omega | fail)) (by first | (simp [hne, hk, del, nAA, zaa, getK, zab, zac]; done) | fail) (by rfl) (by first | assumption | (simp; done) | fail) (by rfl) (by simp) ?_; rintro ob' ⟨q', rfl⟩; refine ⟨_, Wk.refl _, ?_⟩)
  | (refine zas (by first | rfl | fail) ?_; simp [hne, hk, del, nAA, frzN, frz1, zaA, zaz, St.frz, St.frzS, frzS, fv, zaF, zbb, zbe, zaE, zau, zal, del, frz, zbf])
  | fail)
    (refine hpan _ _ ⟨{ n := _, env := [], obs := [(i, pOb l q')], next := nx }, (Wk.cut rfl (by simp [hn]) (by simp [wkO, zaa, getK, zab, zac, Ob.under, D.under, zad, zag, hi, hne, zab, zac, zaa, getK]) (by simp [wkU, zan, zaa, getK, D.under, hi, hne, zab, zac, zaa, getK]) (by simp [wkE, zan, zaa, getK, hi, hne, zab, zac, zaa, getK])), by simp [hn], ?_⟩; try simp)
    exact PPost.zay (by simp [PR.bind, *])
   | ok v1 q1 =>
    have ha := fun nx' h => zde (ha nx' h) hr1;obtain ⟨g1a, g1b⟩ := (zce hl f).1 _ _ _ _ hr1 g0b;have hw2 := fun nx' (h : nx <= nx') => zeW hl [44] (q := q1) (i := i) (nx := nx') (by omega) g1b;cases hr2 : zbt l q1 [[44]] with
    | stop pos e =>
     simp only [hr2] at hw2
     (refine RetX.of_bodyW Tryz.func133 rfl (by simp) fun Γ hn hpan => ?_); simp only [entry, ziC, ziN, maC, maN, oA, Tryz.ntmps133]
     repeat' (first
  | ((first | refine zae ?_ | refine zaj ?_ | fail); simp [hne, hk, del, nAA])
  | (refine ⟨by omega, ?_⟩)
  | ((first | refine zah ?_ | refine zai ?_ | refine zax ?_ | fail); simp [hne, hk, del, nAA])
  | (refine zap ?_; simp only [zao])
  | (refine CallP.fE (hnx) (by first | rfl | fail) (by first | simp [hne, hk, del, nAA] <;> rfl | fail) ?_; (try simp [hne, hk, del, nAA]))
  | (refine CallP.fE (hm1) (by first | rfl | fail) (by first | simp [hne, hk, del, nAA] <;> rfl | fail) ?_; (try simp [hne, hk, del, nAA]))
  | (refine CallP.fE (hm2) (by first | rfl | fail) (by first | simp [hne, hk, del, nAA] <;> rfl | fail) ?_; (try simp [hne, hk, del, nAA]))
  | (refine CallP.ok1 (hh1 _ (by first | omega | simp <;> omega | fail)) (by first | (simp [hne, hk, del, nAA, zaa, getK, zab, zac]; done) | fail) (by rfl) (by rfl) ?_; (try simp [hne, hk, del, nAA]))
  | (refine CallP.ok1 (hh2 _ (by first | omega | simp <;> omega | fail)) (by first | (simp [hne, hk, del, nAA, zaa, getK, zab, zac]; done) | fail) (by rfl) (by rfl) ?_; (try simp [hne, hk, del, nAA]))
  | (refine CallP.ok1 (hw1 _ (by first | omega | simp <;> omega | fail)) (by first | (simp [hne, hk, del, nAA, zaa, getK, zab, zac]; done) | fail) (by rfl) (by rfl) ?_; (try simp [hne, hk, del, nAA]))
  | (refine CallP.ok1 (ha _ (by first | omega | simp <;> omega | fail)) (by first | (simp [hne, hk, del, nAA, zaa, getK, zab, zac]; done) | fail) (by rfl) (by rfl) ?_; (try simp [hne, hk, del, nAA]))
  | (refine CallP.zei (hw2 _ (by first | omega | simp <;> omega | fail)) (by first | (simp [hne, hk, del, nAA, zaa, getK, zab, zac]; done) | fail) (by rfl) (by first | assumption | (simp; done) | fail) (by rfl) (by simp) ?_; rintro ob' ⟨q', rfl⟩; refine ⟨_, Wk.refl _, ?_⟩)
  | (refine zas (by first | rfl | fail) ?_; simp [hne, hk, del, nAA, frzN, frz1, zaA, zaz, St.frz, St.frzS, frzS, fv, zaF, zbb, zbe, zaE, zau, zal, del, frz, zbf])
  | fail)
     (refine hpan _ _ ⟨{ n := _, env := [], obs := [(i, pOb l q')], next := nx }, (Wk.cut rfl (by simp [hn]) (by simp [wkO, zaa, getK, zab, zac, Ob.under, D.under, zad, zag, hi, hne, zab, zac, zaa, getK]) (by simp [wkU, zan, zaa, getK, D.under, hi, hne, zab, zac, zaa, getK]) (by simp [wkE, zan, zaa, getK, hi, hne, zab, zac, zaa, getK])), by simp [hn], ?_⟩; try simp)
     exact PPost.zay (by simp [PR.bind, *])
    | ok v2 q2 =>
     simp only [hr2] at hw2;obtain ⟨g2a, g2b⟩ := za2 hl _ hr2 g1b;have hb := fun nx' (h : nx <= nx') => hE q2 0 i nx' (by omega) g2b (by omega) (by omega) (by omega);cases hr3 : zc4 l f q2 0 with
     | stop pos e =>
      simp only [hr3] at hb
      (refine RetX.of_bodyW Tryz.func133 rfl (by simp) fun Γ hn hpan => ?_); simp only [entry, ziC, ziN, maC, maN, oA, Tryz.ntmps133]
      repeat' (first
  | ((first | refine zae ?_ | refine zaj ?_ | fail); simp [hne, hk, del, nAA])
  | (refine ⟨by omega, ?_⟩)
  | ((first | refine zah ?_ | refine zai ?_ | refine zax ?_ | fail); simp [hne, hk, del, nAA])
  | (refine zap ?_; simp only [zao])
  | (refine CallP.fE (hnx) (by first | rfl | fail) (by first | simp [hne, hk, del, nAA] <;> rfl | fail) ?_; (try simp [hne, hk, del, nAA]))
  | (refine CallP.fE (hm1) (by first | rfl | fail) (by first | simp [hne, hk, del, nAA] <;> rfl | fail) ?_; (try simp [hne, hk, del, nAA]))
  | (refine CallP.fE (hm2) (by first | rfl | fail) (by first | simp [hne, hk, del, nAA] <;> rfl | fail) ?_; (try simp [hne, hk, del, nAA]))
  | (refine CallP.ok1 (hh1 _ (by first | omega | simp <;> omega | fail)) (by first | (simp [hne, hk, del, nAA, zaa, getK, zab, zac]; done) | fail) (by rfl) (by rfl) ?_; (try simp [hne, hk, del, nAA]))
  | (refine CallP.ok1 (hh2 _ (by first | omega | simp <;> omega | fail)) (by first | (simp [hne, hk, del, nAA, zaa, getK, zab, zac]; done) | fail) (by rfl) (by rfl) ?_; (try simp [hne, hk, del, nAA]))
  | (refine CallP.ok1 (hw1 _ (by first | omega | simp <;> omega | fail)) (by first | (simp [hne, hk, del, nAA, zaa, getK, zab, zac]; done) | fail) (by rfl) (by rfl) ?_; (try simp [hne, hk, del, nAA]))
  | (refine CallP.ok1 (ha _ (by first | omega | simp <;> omega | fail)) (by first | (simp [hne, hk, del, nAA, zaa, getK, zab, zac]; done) | fail) (by rfl) (by rfl) ?_; (try simp [hne, hk, del, nAA]))
  | (refine CallP.ok1 (hw2 _ (by first | omega | simp <;> omega | fail)) (by first | (simp [hne, hk, del, nAA, zaa, getK, zab, zac]; done) | fail) (by rfl) (by rfl) ?_; (try simp [hne, hk, del, nAA]))
  | (refine CallP.zei (hb _ (by first | omega | simp <;> omega | fail)) (by first | (simp [hne, hk, del, nAA, zaa, getK, zab, zac]; done) | fail) (by rfl) (by first | assumption | (simp; done) | fail) (by rfl) (by simp) ?_; rintro ob' ⟨q', rfl⟩; refine ⟨_, Wk.refl _, ?_⟩)
  | (refine zas (by first | rfl | fail) ?_; simp [hne, hk, del, nAA, frzN, frz1, zaA, zaz, St.frz, St.frzS, frzS, fv, zaF, zbb, zbe, zaE, zau, zal, del, frz, zbf])
  | fail)
      (refine hpan _ _ ⟨{ n := _, env := [], obs := [(i, pOb l q')], next := nx }, (Wk.cut rfl (by simp [hn]) (by simp [wkO, zaa, getK, zab, zac, Ob.under, D.under, zad, zag, hi, hne, zab, zac, zaa, getK]) (by simp [wkU, zan, zaa, getK, D.under, hi, hne, zab, zac, zaa, getK]) (by simp [wkE, zan, zaa, getK, hi, hne, zab, zac, zaa, getK])), by simp [hn], ?_⟩; try simp)
      exact PPost.zay (by simp [PR.bind, *])
     | ok v3 q3 =>
      have hb := fun nx' h => zde (hb nx' h) hr3;obtain ⟨g3a, g3b⟩ := (zce hl f).1 _ _ _ _ hr3 g2b;have hw3 := fun nx' (h : nx <= nx') => zeW hl [41] (q := q3) (i := i) (nx := nx') (by omega) g3b;cases hr4 : zbt l q3 [[41]] with
      | stop pos e =>
       simp only [hr4] at hw3
       (refine RetX.of_bodyW Tryz.func133 rfl (by simp) fun Γ hn hpan => ?_); simp only [entry, ziC, ziN, maC, maN, oA, Tryz.ntmps133]
       repeat' (first
  | ((first | refine zae ?_ | refine zaj ?_ | fail); simp [hne, hk, del, nAA])
  | (refine ⟨by omega, ?_⟩)
  | ((first | refine zah ?_ | refine zai ?_ | refine zax ?_ | fail); simp [hne, hk, del, nAA])
  | (refine zap ?_; simp only [zao])
  | (refine CallP.fE (hnx) (by first | rfl | fail) (by first | simp [hne, hk, del, nAA] <;> rfl | fail) ?_; (try simp [hne, hk, del, nAA]))
  | (refine CallP.fE (hm1) (by first | rfl | fail) (by first | simp [hne, hk, del, nAA] <;> rfl | fail) ?_; (try simp [hne, hk, del, nAA]))
  | (refine CallP.fE (hm2) (by first | rfl | fail) (by first | simp [hne, hk, del, nAA] <;> rfl | fail) ?_; (try simp [hne, hk, del, nAA]))
  | (refine CallP.ok1 (hh1 _ (by first | omega | simp <;> omega | fail)) (by first | (simp [hne, hk, del, nAA, zaa, getK, zab, zac]; done) | fail) (by rfl) (by rfl) ?_; (try simp [hne, hk, del, nAA]))
  | (refine CallP.ok1 (hh2 _ (by first | omega | simp <;> omega | fail)) (by first | (simp [hne, hk, del, nAA, zaa, getK, zab, zac]; done) | fail) (by rfl) (by rfl) ?_; (try simp [hne, hk, del, nAA]))
  | (refine CallP.ok1 (hw1 _ (by first | omega | simp <;> omega | fail)) (by first | (simp [hne, hk, del, nAA, zaa, getK, zab, zac]; done) | fail) (by rfl) (by rfl) ?_; (try simp [hne, hk, del, nAA]))
  | (refine CallP.ok1 (ha _ (by first | omega | simp <;> omega | fail)) (by first | (simp [hne, hk, del, nAA, zaa, getK, zab, zac]; done) | fail) (by rfl) (by rfl) ?_; (try simp [hne, hk, del, nAA]))
  | (refine CallP.ok1 (hw2 _ (by first | omega | simp <;> omega | fail)) (by first | (simp [hne, hk, del, nAA, zaa, getK, zab, zac]; done) | fail) (by rfl) (by rfl) ?_; (try simp [hne, hk, del, nAA]))
  | (refine CallP.ok1 (hb _ (by first | omega | simp <;> omega | fail)) (by first | (simp [hne, hk, del, nAA, zaa, getK, zab, zac]; done) | fail) (by rfl) (by rfl) ?_; (try simp [hne, hk, del, nAA]))
  | (refine CallP.zei (hw3 _ (by first | omega | simp <;> omega | fail)) (by first | (simp [hne, hk, del, nAA, zaa, getK, zab, zac]; done) | fail) (by rfl) (by first | assumption | (simp; done) | fail) (by rfl) (by simp) ?_; rintro ob' ⟨q', rfl⟩; refine ⟨_, Wk.refl _, ?_⟩)
  | (refine zas (by first | rfl | fail) ?_; simp [hne, hk, del, nAA, frzN, frz1, zaA, zaz, St.frz, St.frzS, frzS, fv, zaF, zbb, zbe, zaE, zau, zal, del, frz, zbf])
  | fail)
       (refine hpan _ _ ⟨{ n := _, env := [], obs := [(i, pOb l q')], next := nx }, (Wk.cut rfl (by simp [hn]) (by simp [wkO, zaa, getK, zab, zac, Ob.under, D.under, zad, zag, hi, hne, zab, zac, zaa, getK]) (by simp [wkU, zan, zaa, getK, D.under, hi, hne, zab, zac, zaa, getK]) (by simp [wkE, zan, zaa, getK, hi, hne, zab, zac, zaa, getK])), by simp [hn], ?_⟩; try simp)
       exact PPost.zay (by simp [PR.bind, *])
      | ok v4 q4 =>
       simp only [hr4] at hw3;obtain ⟨g4a, g4b⟩ := za2 hl _ hr4 g3b
       (refine RetX.of_bodyW Tryz.func133 rfl (by simp) fun Γ hn hpan => ?_); simp only [entry, ziC, ziN, maC, maN, oA, Tryz.ntmps133]
       repeat' (first
  | ((first | refine zae ?_ | refine zaj ?_ | fail); simp [hne, hk, del, nAA])
  | (refine ⟨by omega, ?_⟩)
  | ((first | refine zah ?_ | refine zai ?_ | refine zax ?_ | fail); simp [hne, hk, del, nAA])
  | ((first | refine zaq ?_ | refine zap ?_ | fail); simp only [zao])
  | (refine CallP.fE (hnx) (by first | rfl | fail) (by first | simp [hne, hk, del, nAA] <;> rfl | fail) ?_; (try simp [hne, hk, del, nAA]))
  | (refine CallP.fE (hm1) (by first | rfl | fail) (by first | simp [hne, hk, del, nAA] <;> rfl | fail) ?_; (try simp [hne, hk, del, nAA]))
  | (refine CallP.fE (hm2) (by first | rfl | fail) (by first | simp [hne, hk, del, nAA] <;> rfl | fail) ?_; (try simp [hne, hk, del, nAA]))
  | (refine CallP.ok1 (hh1 _ (by first | omega | simp <;> omega | fail)) (by first | (simp [hne, hk, del, nAA, zaa, getK, zab, zac]; done) | fail) (by rfl) (by rfl) ?_; (try simp [hne, hk, del, nAA]))
  | (refine CallP.ok1 (hh2 _ (by first | omega | simp <;> omega | fail)) (by first | (simp [hne, hk, del, nAA, zaa, getK, zab, zac]; done) | fail) (by rfl) (by rfl) ?_; (try simp [hne, hk, del, nAA]))
  | (refine CallP.ok1 (hw1 _ (by first | omega | simp <;> omega | fail)) (by first | (simp [hne, hk, del, nAA, zaa, getK, zab, zac]; done) | fail) (by rfl) (by rfl) ?_; (try simp [hne, hk, del, nAA]))
  | (refine CallP.ok1 (ha _ (by first | omega | simp <;> omega | fail)) (by first | (simp [hne, hk, del, nAA, zaa, getK, zab, zac]; done) | fail) (by rfl) (by rfl) ?_; (try simp [hne, hk, del, nAA]))
  | (refine CallP.ok1 (hw2 _ (by first | omega | simp <;> omega | fail)) (by first | (simp [hne, hk, del, nAA, zaa, getK, zab, zac]; done) | fail) (by rfl) (by rfl) ?_; (try simp [hne, hk, del, nAA]))
  | (refine CallP.ok1 (hb _ (by first | omega | simp <;> omega | fail)) (by first | (simp [hne, hk, del, nAA, zaa, getK, zab, zac]; done) | fail) (by rfl) (by rfl) ?_; (try simp [hne, hk, del, nAA]))
  | (refine CallP.ok1 (hw3 _ (by first | omega | simp <;> omega | fail)) (by first | (simp [hne, hk, del, nAA, zaa, getK, zab, zac]; done) | fail) (by rfl) (by rfl) ?_; (try simp [hne, hk, del, nAA]))
  | (refine zas (by first | rfl | fail) ?_; simp [hne, hk, del, nAA, frzN, frz1, zaA, zaz, St.frz, St.frzS, frzS, fv, zaF, zbb, zbe, zaE, zau, zal, del, frz, zbf])
  | fail)
       (refine EndW.frzN 1 ?_; simp [frzN, frz1, zaA, zaz, St.frz, St.frzS, frzS, fv, zaF, zbb, zbe, zaE, zau, zal, del, frz, zbf, hne, nAA])
       refine EndW.norm ?_;simp [St.norm, zbj, zbX, zci, zcj, hne, nAA]
       (refine EndW.here ?_; (first | (refine EndOK.fin (.inr rfl) ?_) | (refine EndOK.fin (.inl rfl) ?_)); simp [zaG, zaf, Tryz.results133, hne, hi]; refine FinOK.cut [(i, pOb l q4)] (nx) (by simp [zaa, getK, zab, zac, Ob.under, D.under, zad, zag, hne, hi] <;> omega) (by simp [D.under]) (by simp [hn]) ?_; try simp)
       exact PPost.zcm (by simp [PR.bind, *]; rfl) (by simp [Exp.row_eq, Exp.op, Exp.n, Exp.unit, Exp.s, Exp.args]) rfl
theorem zkH {l : List Tok} (hl : TokOK l) {f p : Nat} (hE : zgl l f) (hf : 4 * (l.length - p) <= f) {t : Tok} (ht : l[p]? = some t) (hk : ¬ t.kind = 2) (h1 : isB l p [116, 114, 117, 101] = false) (h2 : isB l p [102, 97, 108, 115, 101] = false)
  (h3 : isB l p [109, 105, 110] = false) (h4 : isB l p [109, 97, 120] = true) {i nx : Nat} (hi : i < nx) :
  RetX Tryz.prog 133 [.ptr i 0] [(i, pOb l p)] nx (PPost l i nx zee (zaL l (f + 1) p)) := zhH hl hE hf ht hk h1 h2 (.inl ⟨h3, h4⟩) hi
theorem znm {l : List Tok} (hl : TokOK l) {f p : Nat} {form : Int} (hE : zgl l f) (hp : p < l.length) (hf : 4 * (l.length - p) + 1 <= f)
  (hf0 : form = 0) (h1 : isB l p [105, 102] = true) {i nx : Nat} (hi : i < nx) :
  RetX Tryz.prog 95 [.ptr i 0, ziB form] [(i, pOb l p)] nx (PPost l i nx zjE (zaZ l (f + 1) p form)) := by
 have hne := zaB hi;have hll := hl.len;rw [zaZ];have hp2 := zbd hl h1;subst hf0;have hf0 : (0 : Int) = 0 := rfl;have hf3 : (0 : Int) <= 3 := by omega
 have hh1 := fun nx' (h : nx <= nx') => zbk l p [105, 102] i nx' (by omega) hp hl.len;simp only [h1, if_true] at hh1;rw [if_pos ⟨rfl, h1⟩];have ha := fun nx' (h : nx <= nx') => hE (p + 1) 0 i nx' (by omega) hp2 (by omega) (by omega) (by omega);cases hr0 : zc4 l f (p + 1) 0 with
 | stop pos e =>
  simp only [hr0] at ha
  (refine RetX.of_bodyW Tryz.func95 rfl (by simp) fun Γ hn hpan => ?_); simp only [entry, ziC, ziN, maC, maN, oA, Tryz.ntmps95]
  repeat' (first
  | ((first | refine zae ?_ | refine zaj ?_ | refine zah ?_ | refine zai ?_ | fail); simp [hne, hf0, hf3, del, nAA])
  | (refine CallP.ok1 (hh1 _ (by first | omega | simp <;> omega | fail)) (by first | (simp [hne, hf0, hf3, del, nAA, zaa, getK, zab, zac]; done) | fail) (by rfl) (by rfl) ?_; (try simp [hne, hf0, hf3, del, nAA]))
  | (refine CallP.zei (ha _ (by first | omega | simp <;> omega | fail)) (by first | (simp [hne, hf0, hf3, del, nAA, zaa, getK, zab, zac]; done) | fail) (by rfl) (by first | assumption | (simp; done) | fail) (by rfl) (by simp) ?_; rintro ob' ⟨q', rfl⟩; refine ⟨_, Wk.refl _, ?_⟩)
  | fail)
  (refine hpan _ _ ⟨{ n := _, env := [], obs := [(i, pOb l q')], next := nx }, (Wk.cut rfl (by simp [hn]) (by simp [wkO, zaa, getK, zab, zac, Ob.under, D.under, zad, zag, hi, hne, zab, zac, zaa, getK]) (by simp [wkU, zan, zaa, getK, D.under, hi, hne, zab, zac, zaa, getK]) (by simp [wkE, zan, zaa, getK, hi, hne, zab, zac, zaa, getK])), by simp [hn], ?_⟩; try simp)
  exact PPost.zay (by simp [PR.bind, *])
 | ok v0 q0 =>
  have ha := fun nx' h => zde (ha nx' h) hr0;obtain ⟨g0a, g0b⟩ := (zce hl f).1 _ _ _ _ hr0 hp2;have hw1 := fun nx' (h : nx <= nx') => zeW hl [116, 104, 101, 110] (q := q0) (i := i) (nx := nx') (by omega) g0b;cases hr1 : zbt l q0 [[116, 104, 101, 110]] with
  | stop pos e =>
   simp only [hr1] at hw1
   (refine RetX.of_bodyW Tryz.func95 rfl (by simp) fun Γ hn hpan => ?_); simp only [entry, ziC, ziN, maC, maN, oA, Tryz.ntmps95]
   repeat' (first
  | ((first | refine zae ?_ | refine zaj ?_ | refine zah ?_ | refine zai ?_ | fail); simp [hne, hf0, hf3, del, nAA])
  | (refine CallP.ok1 (hh1 _ (by first | omega | simp <;> omega | fail)) (by first | (simp [hne, hf0, hf3, del, nAA, zaa, getK, zab, zac]; done) | fail) (by rfl) (by rfl) ?_; (try simp [hne, hf0, hf3, del, nAA]))
  | (refine CallP.ok1 (ha _ (by first | omega | simp <;> omega | fail)) (by first | (simp [hne, hf0, hf3, del, nAA, zaa, getK, zab, zac]; done) | fail) (by rfl) (by rfl) ?_; (try simp [hne, hf0, hf3, del, nAA]))
  | (refine CallP.zei (hw1 _ (by first | omega | simp <;> omega | fail)) (by first | (simp [hne, hf0, hf3, del, nAA, zaa, getK, zab, zac]; done) | fail) (by rfl) (by first | assumption | (simp; done) | fail) (by rfl) (by simp) ?_; rintro ob' ⟨q', rfl⟩; refine ⟨_, Wk.refl _, ?_⟩)
  | (refine zas (by first | rfl | fail) ?_; simp [hne, hf0, hf3, del, nAA, frzN, frz1, zaA, zaz, St.frz, St.frzS, frzS, fv, zaF, zbb, zbe, zaE, zau, zal, del, frz, zbf])
  | fail)
   (refine hpan _ _ ⟨{ n := _, env := [], obs := [(i, pOb l q')], next := nx }, (Wk.cut rfl (by simp [hn]) (by simp [wkO, zaa, getK, zab, zac, Ob.under, D.under, zad, zag, hi, hne, zab, zac, zaa, getK]) (by simp [wkU, zan, zaa, getK, D.under, hi, hne, zab, zac, zaa, getK]) (by simp [wkE, zan, zaa, getK, hi, hne, zab, zac, zaa, getK])), by simp [hn], ?_⟩; try simp)
   exact PPost.zay (by simp [PR.bind, *])
  | ok v1 q1 =>
   simp only [hr1] at hw1;obtain ⟨g1a, g1b⟩ := za2 hl _ hr1 g0b;have hb := fun nx' (h : nx <= nx') => hE q1 0 i nx' (by omega) g1b (by omega) (by omega) (by omega);cases hr2 : zc4 l f q1 0 with
   | stop pos e =>
    simp only [hr2] at hb
    (refine RetX.of_bodyW Tryz.func95 rfl (by simp) fun Γ hn hpan => ?_); simp only [entry, ziC, ziN, maC, maN, oA, Tryz.ntmps95]
    repeat' (first
  | ((first | refine zae ?_ | refine zaj ?_ | refine zah ?_ | refine zai ?_ | fail); simp [hne, hf0, hf3, del, nAA])
  | (refine CallP.ok1 (hh1 _ (by first | omega | simp <;> omega | fail)) (by first | (simp [hne, hf0, hf3, del, nAA, zaa, getK, zab, zac]; done) | fail) (by rfl) (by rfl) ?_; (try simp [hne, hf0, hf3, del, nAA]))
  | (refine CallP.ok1 (ha _ (by first | omega | simp <;> omega | fail)) (by first | (simp [hne, hf0, hf3, del, nAA, zaa, getK, zab, zac]; done) | fail) (by rfl) (by rfl) ?_; (try simp [hne, hf0, hf3, del, nAA]))
  | (refine CallP.ok1 (hw1 _ (by first | omega | simp <;> omega | fail)) (by first | (simp [hne, hf0, hf3, del, nAA, zaa, getK, zab, zac]; done) | fail) (by rfl) (by rfl) ?_; (try simp [hne, hf0, hf3, del, nAA]))
  | (refine CallP.zei (hb _ (by first | omega | simp <;> omega | fail)) (by first | (simp [hne, hf0, hf3, del, nAA, zaa, getK, zab, zac]; done) | fail) (by rfl) (by first | assumption | (simp; done) | fail) (by rfl) (by simp) ?_; rintro ob' ⟨q', rfl⟩; refine ⟨_, Wk.refl _, ?_⟩)
  | (refine zas (by first | rfl | fail) ?_; simp [hne, hf0, hf3, del, nAA, frzN, frz1, zaA, zaz, St.frz, St.frzS, frzS, fv, zaF, zbb, zbe, zaE, zau, zal, del, frz, zbf])
  | fail)
    (refine hpan _ _ ⟨{ n := _, env := [], obs := [(i, pOb l q')], next := nx }, (Wk.cut rfl (by simp [hn]) (by simp [wkO, zaa, getK, zab, zac, Ob.under, D.under, zad, zag, hi, hne, zab, zac, zaa, getK]) (by simp [wkU, zan, zaa, getK, D.under, hi, hne, zab, zac, zaa, getK]) (by simp [wkE, zan, zaa, getK, hi, hne, zab, zac, zaa, getK])), by simp [hn], ?_⟩; try simp)
    exact PPost.zay (by simp [PR.bind, *])
   | ok v2 q2 =>
    have hb := fun nx' h => zde (hb nx' h) hr2;obtain ⟨g2a, g2b⟩ := (zce hl f).1 _ _ _ _ hr2 g1b;have hw2 := fun nx' (h : nx <= nx') => zeW hl [101, 108, 115, 101] (q := q2) (i := i) (nx := nx') (by omega) g2b;cases hr3 : zbt l q2 [[101, 108, 115, 101]] with
    | stop pos e =>
     simp only [hr3] at hw2
     (refine RetX.of_bodyW Tryz.func95 rfl (by simp) fun Γ hn hpan => ?_); simp only [entry, ziC, ziN, maC, maN, oA, Tryz.ntmps95]
     repeat' (first
  | ((first | refine zae ?_ | refine zaj ?_ | refine zah ?_ | refine zai ?_ | fail); simp [hne, hf0, hf3, del, nAA])
  | (refine CallP.ok1 (hh1 _ (by first | omega | simp <;> omega | fail)) (by first | (simp [hne, hf0, hf3, del, nAA, zaa, getK, zab, zac]; done) | fail) (by rfl) (by rfl) ?_; (try simp [hne, hf0, hf3, del, nAA]))
  | (refine CallP.ok1 (ha _ (by first | omega | simp <;> omega | fail)) (by first | (simp [hne, hf0, hf3, del, nAA, zaa, getK, zab, zac]; done) | fail) (by rfl) (by rfl) ?_; (try simp [hne, hf0, hf3, del, nAA]))
  | (refine CallP.ok1 (hw1 _ (by first | omega | simp <;> omega | fail)) (by first | (simp [hne, hf0, hf3, del, nAA, zaa, getK, zab, zac]; done) | fail) (by rfl) (by rfl) ?_; (try simp [hne, hf0, hf3, del, nAA]))
  | (refine CallP.ok1 (hb _ (by first | omega | simp <;> omega | fail)) (by first | (simp [hne, hf0, hf3, del, nAA, zaa, getK, zab, zac]; done) | fail) (by rfl) (by rfl) ?_; (try simp [hne, hf0, hf3, del, nAA]))
  | (refine CallP.zei (hw2 _ (by first | omega | simp <;> omega | fail)) (by first | (simp [hne, hf0, hf3, del, nAA, zaa, getK, zab, zac]; done) | fail) (by rfl) (by first | assumption | (simp; done) | fail) (by rfl) (by simp) ?_; rintro ob' ⟨q', rfl⟩; refine ⟨_, Wk.refl _, ?_⟩)
  | (refine zas (by first | rfl | fail) ?_; simp [hne, hf0, hf3, del, nAA, frzN, frz1, zaA, zaz, St.frz, St.frzS, frzS, fv, zaF, zbb, zbe, zaE, zau, zal, del, frz, zbf])
  | fail)
     (refine hpan _ _ ⟨{ n := _, env := [], obs := [(i, pOb l q')], next := nx }, (Wk.cut rfl (by simp [hn]) (by simp [wkO, zaa, getK, zab, zac, Ob.under, D.under, zad, zag, hi, hne, zab, zac, zaa, getK]) (by simp [wkU, zan, zaa, getK, D.under, hi, hne, zab, zac, zaa, getK]) (by simp [wkE, zan, zaa, getK, hi, hne, zab, zac, zaa, getK])), by simp [hn], ?_⟩; try simp)
     exact PPost.zay (by simp [PR.bind, *])
    | ok v3 q3 =>
     simp only [hr3] at hw2;obtain ⟨g3a, g3b⟩ := za2 hl _ hr3 g2b;have hc := fun nx' (h : nx <= nx') => hE q3 0 i nx' (by omega) g3b (by omega) (by omega) (by omega);cases hr4 : zc4 l f q3 0 with
     | stop pos e =>
      simp only [hr4] at hc
      (refine RetX.of_bodyW Tryz.func95 rfl (by simp) fun Γ hn hpan => ?_); simp only [entry, ziC, ziN, maC, maN, oA, Tryz.ntmps95]
      repeat' (first
  | (refine zfy (fun nx' h' => hc nx' (by simp at h'; omega)) (by first | (simp [hne, hf0, hf3, del, nAA, zaa, getK, zab, zac, zak, zaJ]; done) | fail) (by rfl) (by first | assumption | simp) (by rfl) (by simp) ?_ ?_; rintro env' ob' n' hn' ⟨q', rfl⟩; refine ⟨_, Wk.refl _, ?_⟩)
  | (refine zez rfl (by simp) ?_; simp)
  | ((first | refine zae ?_ | refine zaU rfl ?_ | refine zaj ?_ | refine zah ?_ | refine zai ?_ | fail); simp [hne, hf0, hf3, del, nAA])
  | (refine zfz (hC _ (zcf [i] nx (by simp <;> omega) (by simp <;> omega) (by apply Exists.intro; apply And.intro; (focus (repeat' (first | exact KF.nil | exact KL.nil | apply KF.cons | apply KL.cons 0 rfl | apply KL.cons 1 rfl | apply KL.cons 2 rfl | apply KL.cons 3 rfl | apply KL.cons 4 rfl | apply KL.cons 5 rfl | apply KL.cons 6 rfl | apply KL.cons 7 rfl | apply KL.cons 8 rfl | apply KL.cons 9 rfl))); kernel_rfl))) rfl; done)
  | (refine za9 rfl (by kernel_rfl) (by first | (simp [hn]; done) | (simp [hn]; omega) | fail) fun C k hC hk => ?_; simp [hne, hf0, hf3, del, nAA])
  | (refine CallP.ok1 (hh1 _ (by first | omega | simp <;> omega | fail)) (by first | (simp [hne, hf0, hf3, del, nAA, zaa, getK, zab, zac]; done) | fail) (by rfl) (by rfl) ?_; (try simp [hne, hf0, hf3, del, nAA]))
  | (refine CallP.ok1 (ha _ (by first | omega | simp <;> omega | fail)) (by first | (simp [hne, hf0, hf3, del, nAA, zaa, getK, zab, zac]; done) | fail) (by rfl) (by rfl) ?_; (try simp [hne, hf0, hf3, del, nAA]))
  | (refine CallP.ok1 (hw1 _ (by first | omega | simp <;> omega | fail)) (by first | (simp [hne, hf0, hf3, del, nAA, zaa, getK, zab, zac]; done) | fail) (by rfl) (by rfl) ?_; (try simp [hne, hf0, hf3, del, nAA]))
  | (refine CallP.ok1 (hb _ (by first | omega | simp <;> omega | fail)) (by first | (simp [hne, hf0, hf3, del, nAA, zaa, getK, zab, zac]; done) | fail) (by rfl) (by rfl) ?_; (try simp [hne, hf0, hf3, del, nAA]))
  | (refine CallP.ok1 (hw2 _ (by first | omega | simp <;> omega | fail)) (by first | (simp [hne, hf0, hf3, del, nAA, zaa, getK, zab, zac]; done) | fail) (by rfl) (by rfl) ?_; (try simp [hne, hf0, hf3, del, nAA]))
  | (refine zas (by first | rfl | fail) ?_; simp [hne, hf0, hf3, del, nAA, frzN, frz1, zaA, zaz, St.frz, St.frzS, frzS, fv, zaF, zbb, zbe, zaE, zau, zal, del, frz, zbf])
  | fail)
      (refine hpan _ _ ⟨{ n := _, env := [], obs := [(i, pOb l q')], next := nx }, (Wk.cut rfl (by simp [hn]) (by simp [wkO, zaa, getK, zab, zac, Ob.under, D.under, zad, zag, hi, hne, zab, zac, zaa, getK]) (by simp [wkU, zan, zaa, getK, D.under, hi, hne, zab, zac, zaa, getK]) (by simp [wkE, zan, zaa, getK, hi, hne, zab, zac, zaa, getK])), by simp [hn], ?_⟩; try simp)
      exact PPost.zay (by simp [PR.bind, *])
     | ok v4 q4 =>
      have hc := fun nx' h => zde (hc nx' h) hr4;obtain ⟨g4a, g4b⟩ := (zce hl f).1 _ _ _ _ hr4 g3b
      (refine RetX.of_bodyW Tryz.func95 rfl (by simp) fun Γ hn hpan => ?_); simp only [entry, ziC, ziN, maC, maN, oA, Tryz.ntmps95]
      repeat' (first
  | (refine zhq (fun nx' h' => hc nx' (by simp at h'; omega)) (by first | (simp [hne, hf0, hf3, del, nAA, zaa, getK, zab, zac, zak, zaJ]; done) | fail) (by rfl) (by first | assumption | simp) (by rfl) (by simp [D.under, Ob.under]) (by simp) ?_; (try simp [hne, hf0, hf3, del, nAA]))
  | ((first | refine zae ?_ | refine zaU rfl ?_ | refine zbJ rfl ?_ | refine zaj ?_ | refine zah ?_ | refine zai ?_ | fail); simp [hne, hf0, hf3, del, nAA])
  | (refine za8 (hC _ (zcf [i] nx (by simp <;> omega) (by simp <;> omega) (by apply Exists.intro; apply And.intro; (focus (repeat' (first | exact KF.nil | exact KL.nil | apply KF.cons | apply KL.cons 0 rfl | apply KL.cons 1 rfl | apply KL.cons 2 rfl | apply KL.cons 3 rfl | apply KL.cons 4 rfl | apply KL.cons 5 rfl | apply KL.cons 6 rfl | apply KL.cons 7 rfl | apply KL.cons 8 rfl | apply KL.cons 9 rfl))); kernel_rfl))) (hk _ ?_); clear hC hk C k; simp only [zao])
  | (refine za9 rfl (by kernel_rfl) (by first | (simp [hn]; done) | (simp [hn]; omega) | fail) fun C k hC hk => ?_; simp [hne, hf0, hf3, del, nAA])
  | (refine zaq ?_; simp only [zao])
  | (refine CallP.ok1 (hh1 _ (by first | omega | simp <;> omega | fail)) (by first | (simp [hne, hf0, hf3, del, nAA, zaa, getK, zab, zac]; done) | fail) (by rfl) (by rfl) ?_; (try simp [hne, hf0, hf3, del, nAA]))
  | (refine CallP.ok1 (ha _ (by first | omega | simp <;> omega | fail)) (by first | (simp [hne, hf0, hf3, del, nAA, zaa, getK, zab, zac]; done) | fail) (by rfl) (by rfl) ?_; (try simp [hne, hf0, hf3, del, nAA]))
  | (refine CallP.ok1 (hw1 _ (by first | omega | simp <;> omega | fail)) (by first | (simp [hne, hf0, hf3, del, nAA, zaa, getK, zab, zac]; done) | fail) (by rfl) (by rfl) ?_; (try simp [hne, hf0, hf3, del, nAA]))
  | (refine CallP.ok1 (hb _ (by first | omega | simp <;> omega | fail)) (by first | (simp [hne, hf0, hf3, del, nAA, zaa, getK, zab, zac]; done) | fail) (by rfl) (by rfl) ?_; (try simp [hne, hf0, hf3, del, nAA]))
  | (refine CallP.ok1 (hw2 _ (by first | omega | simp <;> omega | fail)) (by first | (simp [hne, hf0, hf3, del, nAA, zaa, getK, zab, zac]; done) | fail) (by rfl) (by rfl) ?_; (try simp [hne, hf0, hf3, del, nAA]))
  | (refine zas (by first | rfl | fail) ?_; simp [hne, hf0, hf3, del, nAA, frzN, frz1, zaA, zaz, St.frz, St.frzS, frzS, fv, zaF, zbb, zbe, zaE, zau, zal, del, frz, zbf])
  | fail)
      (refine EndW.frzN 1 ?_; simp [frzN, frz1, zaA, zaz, St.frz, St.frzS, frzS, fv, zaF, zbb, zbe, zaE, zau, zal, del, frz, zbf, hne, nAA])
      refine EndW.norm ?_;simp [St.norm, zbj, zbX, zci, zcj, hne, nAA]
      (refine EndW.here ?_; (first | (refine EndOK.fin (.inr rfl) ?_) | (refine EndOK.fin (.inl rfl) ?_)); simp [zaG, zaf, Tryz.results95, hne, hi]; refine FinOK.cut [(i, pOb l q4)] (nx) (by simp [zaa, getK, zab, zac, Ob.under, D.under, zad, zag, hne, hi] <;> omega) (by simp [D.under]) (by simp [hn]) ?_; try simp)
      exact PPost.zcm (by simp [PR.bind, *]; rfl) (by simp [Exp.row_eq, Exp.op, Exp.n, Exp.unit, Exp.s, Exp.args]) rfl
theorem zkK {l : List Tok} (hl : TokOK l) {f p : Nat} {form : Int} (hE : zgl l f) (hp : p < l.length) (hf : 4 * (l.length - p) + 1 <= f)
  (hf0 : form = 0) (hf3 : form <= 3) (h1 : isB l p [105, 102] = false) (h2 : isB l p [110, 111, 116] = true) {i nx : Nat} (hi : i < nx) :
  RetX Tryz.prog 95 [.ptr i 0, ziB form] [(i, pOb l p)] nx (PPost l i nx zjE (zaZ l (f + 1) p form)) := by
 have hne := zaB hi;have hll := hl.len;rw [zaZ];have hh1 := fun nx' (h : nx <= nx') => zbk l p [105, 102] i nx' (by omega) hp hl.len;rw [h1] at hh1;simp only [if_true, Bool.false_eq_true, if_false] at hh1;have hp2 := zbd hl h2;have hh2 := fun nx' (h : nx <= nx') => zbk l p [110, 111, 116] i nx' (by omega) hp hl.len;rw [h2] at hh2;simp only [if_true, Bool.false_eq_true, if_false] at hh2;rw [if_neg (by simp [*]), if_pos ⟨hf3, h2⟩];have ha := fun nx' (h : nx <= nx') => hE (p + 1) 3 i nx' (by omega) hp2 (by omega) (by omega) (by omega);cases hr0 : zc4 l f (p + 1) 3 with
 | stop pos e =>
  simp only [hr0] at ha
  (refine RetX.of_bodyW Tryz.func95 rfl (by simp) fun Γ hn hpan => ?_); simp only [entry, ziC, ziN, maC, maN, oA, Tryz.ntmps95]
  repeat' (first
  | ((first | refine zae ?_ | refine zaj ?_ | refine zah ?_ | refine zai ?_ | fail); simp [hne, hf0, hf3, del, nAA])
  | (refine zap ?_; simp only [zao])
  | (refine CallP.ok1 (hh1 _ (by first | omega | simp <;> omega | fail)) (by first | (simp [hne, hf0, hf3, del, nAA, zaa, getK, zab, zac]; done) | fail) (by rfl) (by rfl) ?_; (try simp [hne, hf0, hf3, del, nAA]))
  | (refine CallP.ok1 (hh2 _ (by first | omega | simp <;> omega | fail)) (by first | (simp [hne, hf0, hf3, del, nAA, zaa, getK, zab, zac]; done) | fail) (by rfl) (by rfl) ?_; (try simp [hne, hf0, hf3, del, nAA]))
  | (refine CallP.zei (ha _ (by first | omega | simp <;> omega | fail)) (by first | (simp [hne, hf0, hf3, del, nAA, zaa, getK, zab, zac]; done) | fail) (by rfl) (by first | assumption | (simp; done) | fail) (by rfl) (by simp) ?_; rintro ob' ⟨q', rfl⟩; refine ⟨_, Wk.refl _, ?_⟩)
  | fail)
  (refine hpan _ _ ⟨{ n := _, env := [], obs := [(i, pOb l q')], next := nx }, (Wk.cut rfl (by simp [hn]) (by simp [wkO, zaa, getK, zab, zac, Ob.under, D.under, zad, zag, hi, hne, zab, zac, zaa, getK]) (by simp [wkU, zan, zaa, getK, D.under, hi, hne, zab, zac, zaa, getK]) (by simp [wkE, zan, zaa, getK, hi, hne, zab, zac, zaa, getK])), by simp [hn], ?_⟩; try simp)
  exact PPost.zay (by simp [PR.bind, *])
 | ok v0 q0 =>
  have ha := fun nx' h => zde (ha nx' h) hr0
  (refine RetX.of_bodyW Tryz.func95 rfl (by simp) fun Γ hn hpan => ?_); simp only [entry, ziC, ziN, maC, maN, oA, Tryz.ntmps95]
  repeat' (first
  | ((first | refine zae ?_ | refine zaj ?_ | refine zah ?_ | refine zai ?_ | fail); simp [hne, hf0, hf3, del, nAA])
  | ((first | refine zaq ?_ | refine zap ?_ | fail); simp only [zao])
  | (refine CallP.ok1 (hh1 _ (by first | omega | simp <;> omega | fail)) (by first | (simp [hne, hf0, hf3, del, nAA, zaa, getK, zab, zac]; done) | fail) (by rfl) (by rfl) ?_; (try simp [hne, hf0, hf3, del, nAA]))
  | (refine CallP.ok1 (hh2 _ (by first | omega | simp <;> omega | fail)) (by first | (simp [hne, hf0, hf3, del, nAA, zaa, getK, zab, zac]; done) | fail) (by rfl) (by rfl) ?_; (try simp [hne, hf0, hf3, del, nAA]))
  | (refine CallP.ok1 (ha _ (by first | omega | simp <;> omega | fail)) (by first | (simp [hne, hf0, hf3, del, nAA, zaa, getK, zab, zac]; done) | fail) (by rfl) (by rfl) ?_; (try simp [hne, hf0, hf3, del, nAA]))
  | fail)
  (refine EndW.frzN 1 ?_; simp [frzN, frz1, zaA, zaz, St.frz, St.frzS, frzS, fv, zaF, zbb, zbe, zaE, zau, zal, del, frz, zbf, hne, nAA])
  refine EndW.norm ?_;simp [St.norm, zbj, zbX, zci, zcj, hne, nAA]
  (refine EndW.here ?_; (first | (refine EndOK.fin (.inr rfl) ?_) | (refine EndOK.fin (.inl rfl) ?_)); simp [zaG, zaf, Tryz.results95, hne, hi]; refine FinOK.cut [(i, pOb l q0)] (nx) (by simp [zaa, getK, zab, zac, Ob.under, D.under, zad, zag, hne, hi] <;> omega) (by simp [D.under]) (by simp [hn]) ?_; try simp)
  exact PPost.zcm (by simp [PR.bind, *]; rfl) (by simp [Exp.row_eq, Exp.op, Exp.n, Exp.unit, Exp.s, Exp.args]) rfl
theorem zkJ {l : List Tok} (hl : TokOK l) {f p : Nat} {form : Int} (hE : zgl l f) (hp : p < l.length) (hf : 4 * (l.length - p) + 1 <= f)
  (hf0 : ¬ form = 0) (hf3 : form <= 3) (h2 : isB l p [110, 111, 116] = true) {i nx : Nat} (hi : i < nx) :
  RetX Tryz.prog 95 [.ptr i 0, ziB form] [(i, pOb l p)] nx (PPost l i nx zjE (zaZ l (f + 1) p form)) := by
 have hne := zaB hi;have hll := hl.len;rw [zaZ];have hp2 := zbd hl h2;have hh2 := fun nx' (h : nx <= nx') => zbk l p [110, 111, 116] i nx' (by omega) hp hl.len;rw [h2] at hh2;simp only [if_true, Bool.false_eq_true, if_false] at hh2;rw [if_neg (by simp [*]), if_pos ⟨hf3, h2⟩];have ha := fun nx' (h : nx <= nx') => hE (p + 1) 3 i nx' (by omega) hp2 (by omega) (by omega) (by omega);cases hr0 : zc4 l f (p + 1) 3 with
 | stop pos e =>
  simp only [hr0] at ha
  (refine RetX.of_bodyW Tryz.func95 rfl (by simp) fun Γ hn hpan => ?_); simp only [entry, ziC, ziN, maC, maN, oA, Tryz.ntmps95]
  repeat' (first
  | ((first | refine zae ?_ | refine zaj ?_ | refine zah ?_ | refine zai ?_ | fail); simp [hne, hf0, hf3, del, nAA])
  | (refine zap ?_; simp only [zao])
  | (refine CallP.ok1 (hh2 _ (by first | omega | simp <;> omega | fail)) (by first | (simp [hne, hf0, hf3, del, nAA, zaa, getK, zab, zac]; done) | fail) (by rfl) (by rfl) ?_; (try simp [hne, hf0, hf3, del, nAA]))
  | (refine CallP.zei (ha _ (by first | omega | simp <;> omega | fail)) (by first | (simp [hne, hf0, hf3, del, nAA, zaa, getK, zab, zac]; done) | fail) (by rfl) (by first | assumption | (simp; done) | fail) (by rfl) (by simp) ?_; rintro ob' ⟨q', rfl⟩; refine ⟨_, Wk.refl _, ?_⟩)
  | fail)
  (refine hpan _ _ ⟨{ n := _, env := [], obs := [(i, pOb l q')], next := nx }, (Wk.cut rfl (by simp [hn]) (by simp [wkO, zaa, getK, zab, zac, Ob.under, D.under, zad, zag, hi, hne, zab, zac, zaa, getK]) (by simp [wkU, zan, zaa, getK, D.under, hi, hne, zab, zac, zaa, getK]) (by simp [wkE, zan, zaa, getK, hi, hne, zab, zac, zaa, getK])), by simp [hn], ?_⟩; try simp)
  exact PPost.zay (by simp [PR.bind, *])
 | ok v0 q0 =>
  have ha := fun nx' h => zde (ha nx' h) hr0
  (refine RetX.of_bodyW Tryz.func95 rfl (by simp) fun Γ hn hpan => ?_); simp only [entry, ziC, ziN, maC, maN, oA, Tryz.ntmps95]
  repeat' (first
  | ((first | refine zae ?_ | refine zaj ?_ | refine zah ?_ | refine zai ?_ | fail); simp [hne, hf0, hf3, del, nAA])
  | ((first | refine zaq ?_ | refine zap ?_ | fail); simp only [zao])
  | (refine CallP.ok1 (hh2 _ (by first | omega | simp <;> omega | fail)) (by first | (simp [hne, hf0, hf3, del, nAA, zaa, getK, zab, zac]; done) | fail) (by rfl) (by rfl) ?_; (try simp [hne, hf0, hf3, del, nAA]))
  | (refine CallP.ok1 (ha _ (by first | omega | simp <;> omega | fail)) (by first | (simp [hne, hf0, hf3, del, nAA, zaa, getK, zab, zac]; done) | fail) (by rfl) (by rfl) ?_; (try simp [hne, hf0, hf3, del, nAA]))
  | fail)
  (refine EndW.frzN 1 ?_; simp [frzN, frz1, zaA, zaz, St.frz, St.frzS, frzS, fv, zaF, zbb, zbe, zaE, zau, zal, del, frz, zbf, hne, nAA])
  refine EndW.norm ?_;simp [St.norm, zbj, zbX, zci, zcj, hne, nAA]
  (refine EndW.here ?_; (first | (refine EndOK.fin (.inr rfl) ?_) | (refine EndOK.fin (.inl rfl) ?_)); simp [zaG, zaf, Tryz.results95, hne, hi]; refine FinOK.cut [(i, pOb l q0)] (nx) (by simp [zaa, getK, zab, zac, Ob.under, D.under, zad, zag, hne, hi] <;> omega) (by simp [D.under]) (by simp [hn]) ?_; try simp)
  exact PPost.zcm (by simp [PR.bind, *]; rfl) (by simp [Exp.row_eq, Exp.op, Exp.n, Exp.unit, Exp.s, Exp.args]) rfl
theorem zjt {l : List Tok} (hl : TokOK l) {f p : Nat} {form : Int} (hP : zh6 l f) (hp : p < l.length) (hf : 4 * (l.length - p) + 1 <= f)
  (hf0 : form = 0) (hf3 : form <= 3) (h1 : isB l p [105, 102] = false) (h2 : isB l p [110, 111, 116] = false) {i nx : Nat} (hi : i < nx) :
  RetX Tryz.prog 95 [.ptr i 0, ziB form] [(i, pOb l p)] nx (PPost l i nx zjE (zaZ l (f + 1) p form)) := by
 have hne := zaB hi;have hll := hl.len;rw [zaZ];have hh1 := fun nx' (h : nx <= nx') => zbk l p [105, 102] i nx' (by omega) hp hl.len;rw [h1] at hh1;simp only [if_true, Bool.false_eq_true, if_false] at hh1;have hh2 := fun nx' (h : nx <= nx') => zbk l p [110, 111, 116] i nx' (by omega) hp hl.len;rw [h2] at hh2;simp only [if_true, Bool.false_eq_true, if_false] at hh2;rw [if_neg (by simp [*]), if_neg (by simp [*])];have ha := fun nx' (h : nx <= nx') => hP p i nx' (by omega) hp (by omega);cases hr0 : zaL l f p with
 | stop pos e =>
  simp only [hr0] at ha
  (refine RetX.of_bodyW Tryz.func95 rfl (by simp) fun Γ hn hpan => ?_); simp only [entry, ziC, ziN, maC, maN, oA, Tryz.ntmps95]
  repeat' (first
  | ((first | refine zae ?_ | refine zaj ?_ | refine zah ?_ | refine zai ?_ | fail); simp [hne, hf0, hf3, del, nAA])
  | (refine zap ?_; simp only [zao])
  | (refine CallP.ok1 (hh1 _ (by first | omega | simp <;> omega | fail)) (by first | (simp [hne, hf0, hf3, del, nAA, zaa, getK, zab, zac]; done) | fail) (by rfl) (by rfl) ?_; (try simp [hne, hf0, hf3, del, nAA]))
  | (refine CallP.ok1 (hh2 _ (by first | omega | simp <;> omega | fail)) (by first | (simp [hne, hf0, hf3, del, nAA, zaa, getK, zab, zac]; done) | fail) (by rfl) (by rfl) ?_; (try simp [hne, hf0, hf3, del, nAA]))
  | (refine CallP.zei (ha _ (by first | omega | simp <;> omega | fail)) (by first | (simp [hne, hf0, hf3, del, nAA, zaa, getK, zab, zac]; done) | fail) (by rfl) (by first | assumption | (simp; done) | fail) (by rfl) (by simp) ?_; rintro ob' ⟨q', rfl⟩; refine ⟨_, Wk.refl _, ?_⟩)
  | fail)
  (refine hpan _ _ ⟨{ n := _, env := [], obs := [(i, pOb l q')], next := nx }, (Wk.cut rfl (by simp [hn]) (by simp [wkO, zaa, getK, zab, zac, Ob.under, D.under, zad, zag, hi, hne, zab, zac, zaa, getK]) (by simp [wkU, zan, zaa, getK, D.under, hi, hne, zab, zac, zaa, getK]) (by simp [wkE, zan, zaa, getK, hi, hne, zab, zac, zaa, getK])), by simp [hn], ?_⟩; try simp)
  exact PPost.zay (by simp [PR.bind, *])
 | ok v0 q0 =>
  have ha := fun nx' h => zde (ha nx' h) hr0
  (refine RetX.of_bodyW Tryz.func95 rfl (by simp) fun Γ hn hpan => ?_); simp only [entry, ziC, ziN, maC, maN, oA, Tryz.ntmps95]
  repeat' (first
  | ((first | refine zae ?_ | refine zaj ?_ | refine zah ?_ | refine zai ?_ | fail); simp [hne, hf0, hf3, del, nAA])
  | ((first | refine zaq ?_ | refine zap ?_ | fail); simp only [zao])
  | (refine CallP.ok1 (hh1 _ (by first | omega | simp <;> omega | fail)) (by first | (simp [hne, hf0, hf3, del, nAA, zaa, getK, zab, zac]; done) | fail) (by rfl) (by rfl) ?_; (try simp [hne, hf0, hf3, del, nAA]))
  | (refine CallP.ok1 (hh2 _ (by first | omega | simp <;> omega | fail)) (by first | (simp [hne, hf0, hf3, del, nAA, zaa, getK, zab, zac]; done) | fail) (by rfl) (by rfl) ?_; (try simp [hne, hf0, hf3, del, nAA]))
  | (refine CallP.ok1 (ha _ (by first | omega | simp <;> omega | fail)) (by first | (simp [hne, hf0, hf3, del, nAA, zaa, getK, zab, zac]; done) | fail) (by rfl) (by rfl) ?_; (try simp [hne, hf0, hf3, del, nAA]))
  | fail)
  refine EndW.norm ?_;simp [St.norm, zbj, zbX, zci, zcj, hne, nAA]
  (refine EndW.here ?_; (first | (refine EndOK.fin (.inr rfl) ?_) | (refine EndOK.fin (.inl rfl) ?_)); simp [zaG, zaf, Tryz.results95, hne, hi]; refine FinOK.cut [(i, pOb l q0)] (nx) (by simp [zaa, getK, zab, zac, Ob.under, D.under, zad, zag, hne, hi] <;> omega) (by simp [D.under]) (by simp [hn]) ?_; try simp)
  exact PPost.zcm (by simp [PR.bind, *]; rfl) (by simp [Exp.row_eq, Exp.op, Exp.n, Exp.unit, Exp.s, Exp.args]) rfl
theorem zjs {l : List Tok} (hl : TokOK l) {f p : Nat} {form : Int} (hP : zh6 l f) (hp : p < l.length) (hf : 4 * (l.length - p) + 1 <= f)
  (hf0 : ¬ form = 0) (hf3 : form <= 3) (h2 : isB l p [110, 111, 116] = false) {i nx : Nat} (hi : i < nx) :
  RetX Tryz.prog 95 [.ptr i 0, ziB form] [(i, pOb l p)] nx (PPost l i nx zjE (zaZ l (f + 1) p form)) := by
 have hne := zaB hi;have hll := hl.len;rw [zaZ];have hh2 := fun nx' (h : nx <= nx') => zbk l p [110, 111, 116] i nx' (by omega) hp hl.len;rw [h2] at hh2;simp only [if_true, Bool.false_eq_true, if_false] at hh2;rw [if_neg (by simp [*]), if_neg (by simp [*])];have ha := fun nx' (h : nx <= nx') => hP p i nx' (by omega) hp (by omega);cases hr0 : zaL l f p with
 | stop pos e =>
  simp only [hr0] at ha
  (refine RetX.of_bodyW Tryz.func95 rfl (by simp) fun Γ hn hpan => ?_); simp only [entry, ziC, ziN, maC, maN, oA, Tryz.ntmps95]
  repeat' (first
  | ((first | refine zae ?_ | refine zaj ?_ | refine zah ?_ | refine zai ?_ | fail); simp [hne, hf0, hf3, del, nAA])
  | (refine zap ?_; simp only [zao])
  | (refine CallP.ok1 (hh2 _ (by first | omega | simp <;> omega | fail)) (by first | (simp [hne, hf0, hf3, del, nAA, zaa, getK, zab, zac]; done) | fail) (by rfl) (by rfl) ?_; (try simp [hne, hf0, hf3, del, nAA]))
  | (refine CallP.zei (ha _ (by first | omega | simp <;> omega | fail)) (by first | (simp [hne, hf0, hf3, del, nAA, zaa, getK, zab, zac]; done) | fail) (by rfl) (by first | assumption | (simp; done) | fail) (by rfl) (by simp) ?_; rintro ob' ⟨q', rfl⟩; refine ⟨_, Wk.refl _, ?_⟩)
  | fail)
  (refine hpan _ _ ⟨{ n := _, env := [], obs := [(i, pOb l q')], next := nx }, (Wk.cut rfl (by simp [hn]) (by simp [wkO, zaa, getK, zab, zac, Ob.under, D.under, zad, zag, hi, hne, zab, zac, zaa, getK]) (by simp [wkU, zan, zaa, getK, D.under, hi, hne, zab, zac, zaa, getK]) (by simp [wkE, zan, zaa, getK, hi, hne, zab, zac, zaa, getK])), by simp [hn], ?_⟩; try simp)
  exact PPost.zay (by simp [PR.bind, *])
 | ok v0 q0 =>
  have ha := fun nx' h => zde (ha nx' h) hr0
  (refine RetX.of_bodyW Tryz.func95 rfl (by simp) fun Γ hn hpan => ?_); simp only [entry, ziC, ziN, maC, maN, oA, Tryz.ntmps95]
  repeat' (first
  | ((first | refine zae ?_ | refine zaj ?_ | refine zah ?_ | refine zai ?_ | fail); simp [hne, hf0, hf3, del, nAA])
  | ((first | refine zaq ?_ | refine zap ?_ | fail); simp only [zao])
  | (refine CallP.ok1 (hh2 _ (by first | omega | simp <;> omega | fail)) (by first | (simp [hne, hf0, hf3, del, nAA, zaa, getK, zab, zac]; done) | fail) (by rfl) (by rfl) ?_; (try simp [hne, hf0, hf3, del, nAA]))
  | (refine CallP.ok1 (ha _ (by first | omega | simp <;> omega | fail)) (by first | (simp [hne, hf0, hf3, del, nAA, zaa, getK, zab, zac]; done) | fail) (by rfl) (by rfl) ?_; (try simp [hne, hf0, hf3, del, nAA]))
  | fail)
  refine EndW.norm ?_;simp [St.norm, zbj, zbX, zci, zcj, hne, nAA]
  (refine EndW.here ?_; (first | (refine EndOK.fin (.inr rfl) ?_) | (refine EndOK.fin (.inl rfl) ?_)); simp [zaG, zaf, Tryz.results95, hne, hi]; refine FinOK.cut [(i, pOb l q0)] (nx) (by simp [zaa, getK, zab, zac, Ob.under, D.under, zad, zag, hne, hi] <;> omega) (by simp [D.under]) (by simp [hn]) ?_; try simp)
  exact PPost.zcm (by simp [PR.bind, *]; rfl) (by simp [Exp.row_eq, Exp.op, Exp.n, Exp.unit, Exp.s, Exp.args]) rfl
theorem zjr {l : List Tok} (hl : TokOK l) {f p : Nat} {form : Int} (hP : zh6 l f) (hp : p < l.length) (hf : 4 * (l.length - p) + 1 <= f)
  (hf0 : ¬ form = 0) (hf3 : ¬ form <= 3) {i nx : Nat} (hi : i < nx) :
  RetX Tryz.prog 95 [.ptr i 0, ziB form] [(i, pOb l p)] nx (PPost l i nx zjE (zaZ l (f + 1) p form)) := by
 have hne := zaB hi;have hll := hl.len;rw [zaZ];rw [if_neg (by simp [*]), if_neg (by simp [*])];have ha := fun nx' (h : nx <= nx') => hP p i nx' (by omega) hp (by omega);cases hr0 : zaL l f p with
 | stop pos e =>
  simp only [hr0] at ha
  (refine RetX.of_bodyW Tryz.func95 rfl (by simp) fun Γ hn hpan => ?_); simp only [entry, ziC, ziN, maC, maN, oA, Tryz.ntmps95]
  repeat' (first
  | ((first | refine zae ?_ | refine zaj ?_ | refine zah ?_ | refine zai ?_ | fail); simp [hne, hf0, hf3, del, nAA])
  | (refine zap ?_; simp only [zao])
  | (refine CallP.zei (ha _ (by first | omega | simp <;> omega | fail)) (by first | (simp [hne, hf0, hf3, del, nAA, zaa, getK, zab, zac]; done) | fail) (by rfl) (by first | assumption | (simp; done) | fail) (by rfl) (by simp) ?_; rintro ob' ⟨q', rfl⟩; refine ⟨_, Wk.refl _, ?_⟩)
  | fail)
  (refine hpan _ _ ⟨{ n := _, env := [], obs := [(i, pOb l q')], next := nx }, (Wk.cut rfl (by simp [hn]) (by simp [wkO, zaa, getK, zab, zac, Ob.under, D.under, zad, zag, hi, hne, zab, zac, zaa, getK]) (by simp [wkU, zan, zaa, getK, D.under, hi, hne, zab, zac, zaa, getK]) (by simp [wkE, zan, zaa, getK, hi, hne, zab, zac, zaa, getK])), by simp [hn], ?_⟩; try simp)
  exact PPost.zay (by simp [PR.bind, *])
 | ok v0 q0 =>
  have ha := fun nx' h => zde (ha nx' h) hr0
  (refine RetX.of_bodyW Tryz.func95 rfl (by simp) fun Γ hn hpan => ?_); simp only [entry, ziC, ziN, maC, maN, oA, Tryz.ntmps95]
  repeat' (first
  | ((first | refine zae ?_ | refine zaj ?_ | refine zah ?_ | refine zai ?_ | fail); simp [hne, hf0, hf3, del, nAA])
  | ((first | refine zaq ?_ | refine zap ?_ | fail); simp only [zao])
  | (refine CallP.ok1 (ha _ (by first | omega | simp <;> omega | fail)) (by first | (simp [hne, hf0, hf3, del, nAA, zaa, getK, zab, zac]; done) | fail) (by rfl) (by rfl) ?_; (try simp [hne, hf0, hf3, del, nAA]))
  | fail)
  refine EndW.norm ?_;simp [St.norm, zbj, zbX, zci, zcj, hne, nAA]
  (refine EndW.here ?_; (first | (refine EndOK.fin (.inr rfl) ?_) | (refine EndOK.fin (.inl rfl) ?_)); simp [zaG, zaf, Tryz.results95, hne, hi]; refine FinOK.cut [(i, pOb l q0)] (nx) (by simp [zaa, getK, zab, zac, Ob.under, D.under, zad, zag, hne, hi] <;> omega) (by simp [D.under]) (by simp [hn]) ?_; try simp)
  exact PPost.zcm (by simp [PR.bind, *]; rfl) (by simp [Exp.row_eq, Exp.op, Exp.n, Exp.unit, Exp.s, Exp.args]) rfl
theorem zkI {l : List Tok} (hl : TokOK l) {f : Nat} (hE : zgl l f) (hP : zh6 l f) : zqK l (f + 1) := by
 intro p form i nx hi hp hf hm0 hm7;have hf' : 4 * (l.length - p) + 1 <= f := by omega
 by_cases hf0 : form = 0
 ·have hf3 : form <= 3 := by omega
  cases h1 : isB l p [105, 102] with
  | true => exact znm hl hE hp hf' hf0 h1 hi
  | false =>
   cases h2 : isB l p [110, 111, 116] with
   | true => exact zkK hl hE hp hf' hf0 hf3 h1 h2 hi
   | false => exact zjt hl hP hp hf' hf0 hf3 h1 h2 hi
 ·by_cases hf3 : form <= 3
  ·cases h2 : isB l p [110, 111, 116] with
   | true => exact zkJ hl hE hp hf' hf0 hf3 h2 hi
   | false => exact zjs hl hP hp hf' hf0 hf3 h2 hi
  ·exact zjr hl hP hp hf' hf0 hf3 hi
end Go.Proofs.YthnemhfamhnfjaaGreatDoor
