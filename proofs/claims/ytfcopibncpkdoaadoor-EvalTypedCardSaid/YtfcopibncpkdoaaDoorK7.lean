/- Texts joined by a program of mine: Ga Uv VLA La Lg. -/
import Derived.Test.YtfcopibncpkdoaaDoorK6
import Derived.LaidMore
import Derived.LaidLaws
import Derived.LaidHandle
import Derived.MakeChecks
import Derived.Stop.Joined
import Derived.OpenShut
import Derived.Test.YtfcopibncpkdoaaDoorTie
import Derived.Test.YtfcopibncpkdoaaDoorCards
set_option linter.all false
set_option maxRecDepth 100000
set_option maxHeartbeats 8000000
namespace Go.Proofs.YtfcopibncpkdoaaDoor
open Go Go.VL
/-- What is left to do from a call on, for some names of clauses, is shown once. -/
theorem CallP_shareC {P : Program} {Γ : Ctx} {S : List UInt8 → St} {fop : Operand} {args : List Operand} {dst : Option Tmp} {R : Prop} (k : St → Prop) (main : (∀ c ∈ clausesL, CallP P Γ fop args dst (S c) k) → R) (key : ∀ c ∈ clausesL, CallP P Γ fop args dst (S c) k) : R := main key
theorem jOf_bound (c : List UInt8) : 5 ≤ jOf c ∧ jOf c ≤ 12 := by unfold jOf; (repeat' split); all_goals omega
theorem namesS_len (c : List UInt8) : (namesS c).length ≤ 5 := by unfold namesS; (repeat' split); all_goals simp
theorem namesS_in (c : List UInt8) : (namesS c).all inCB = true := by unfold namesS; (repeat' split); all_goals decide
theorem putN_len (vs : List Var) (ns : List Int) : (putN vs ns).length = vs.length := by
 have := congrArg List.length (putN_names vs ns)
 simpa using this
theorem putN_take {vs : List Var} {ns : List Int} : ∀ {i : Nat} {v : Var}, vs[i]? = some v → (putN vs (ns.take i))[i]? = some v := by
 induction vs generalizing ns with
 | nil => intro i v h; simp at h
 | cons a vs ih =>
  intro i v h
  cases i with
  | zero => simpa [putN_nil] using h
  | succ i =>
   cases ns with
   | nil => simpa [putN_nil] using h
   | cons n ns => rw [List.take_succ_cons, putN]; simpa using ih (by simpa using h)
theorem putN_next {vs : List Var} {ns : List Int} : ∀ {i : Nat} {v : Var} {n : Int}, vs[i]? = some v → ns[i]? = some n → putN vs (ns.take (i + 1)) = (putN vs (ns.take i)).set i ⟨v.name, v.unit, clipC n⟩ := by
 induction vs generalizing ns with
 | nil => intro i v n h; simp at h
 | cons a vs ih =>
  intro i v n h hn20
  cases ns with
  | nil => simp at hn20
  | cons m ns =>
   cases i with
   | zero =>
    simp at h hn20
    subst h hn20
    rw [List.take_succ_cons, List.take_zero, List.take_zero, putN, putN_nil, putN_nil, List.set_cons_zero]
   | succ i =>
    rw [List.take_succ_cons, List.take_succ_cons, putN, putN, List.set_cons_succ, ih (by simpa using h) (by simpa using hn20)]
theorem putN_stop {vs : List Var} {ns : List Int} {i : Nat} (h : ns.length ≤ i) : putN vs (ns.take (i + 1)) = putN vs (ns.take i) := by
 rw [List.take_of_length_le (by omega), List.take_of_length_le (by omega)]
theorem rowsV_set (l : List Var) (i : Nat) (v : Var) : rowsV (l.set i v) = (rowsV l).set i [.str v.name, .int .i64 v.unit, .int .i64 v.n] := by
 unfold rowsV; rw [List.map_set]
theorem rowsV_at {l : List Var} {i : Nat} {v : Var} (h : l[i]? = some v) : (rowsV l)[i]? = some [.str v.name, .int .i64 v.unit, .int .i64 v.n] := by
 unfold rowsV; rw [List.getElem?_map, h]; rfl
theorem rowsD_set3 (l : List (List U)) (i : Nat) (a b c : U) : (rowsD l).set i [.u a, .u b, .u c] = rowsD (l.set i [a, b, c]) := rowsD_set l i [a, b, c]
theorem rowsV_lenR (l : List Var) : lenR 3 (rowsV l) := fun r hr => by obtain ⟨t, _, rfl⟩ := List.mem_map.1 hr; rfl
theorem rowsV_ones (l : List Var) : onesR (rowsD (rowsV l)) := by unfold rowsV; simp [ones, isOne]
attribute [local simp] hcons hstep evPure opd uOf putOK St.put St.at getK binD binI binS binB nilD aggD eqUs cmpK lookD lookR rangeD Go.VL.nextD entryD keyD valU keyU lookK mkV entD_nil lookK_entD updK_entD1 updK_entD3 allUE allUE_entD makeMapD mapUpdD mapEff updK valM Key.kk shiftI arith unD convD pickD loadD cellsAt fieldAddrD fieldD indexAddrD indexD sliceD cutD lenD minmaxD nilCheckD buildD fillD cellsD isOne ones setAll mkAgg allU allocD boxD storeD St.add buildSliceD appendD rowsOf makeD setOb getK_setOb getK_del getK_cons stripL strip guardTmp entry chunks zcells valD argsV argsW argW argU1 argU0 argsU0 argsU1 calleeOf scalarD scalarU delAll effD St.effS RK_seq RK_seq_ret RK_seq_exit RK_blk RK_blk_ret RK_blk_exit RK_loop RK_loop_ret RK_loop_exit RK_done vs_seq vs_block vs_cond vs_region vs_loop vs_draw applyW mkD rdIds lentIds callOf calleeOf freeOp D.ids Op.operands Call.operands isEffOp makeIfD typeAssertD conc concs conc1 uOfV panicD IntKind.bits allU2 allU2_append List.take_of_length_le List.range_succ
attribute [local irreducible] V G H HD HD2 RunK Eff CallP CallV EndOK Fun Ret FinOK LoopI LoopW EndW
theorem typed_fun (b : By) (clause : Int) (ns : List Int) : Fun Tryd.prog 8 [.u (.agg (byCells b)), .u (.int .i64 clause), .u (ints ns)] (· = .u (.bool true)) := by
 have h0 := small_fun
 generalize hq : bitAnd .i64 clause 7 = q
 simp only [byCells, ints]
 (refine Fun.of_bodyW Tryd.func8 rfl (by simp) fun Γ hn => ?_); simp only [entry, List.zipIdx_cons, List.zipIdx_nil, List.map_cons, List.map_nil, Nat.zero_add, Tryd.ntmps8]
 apply CallP_shareC (P := Tryd.prog) (Γ := Γ) (fop := .func 17) (args := [.tmp 28]) (dst := some 29) (S := fun c => { n := 118, env := [(28, .u (.agg (byCells b))), (2, .u (ints ns)), (3, .ptr 0 0), (7, .u (.bool true)), (8, .u (.str c))], obs := [(0, .box ((byCells b).map .u))], next := 1 })
 case main =>
  intro key
  repeat' (first
  | (refine H_cons ?_; simp [hq])
  | (refine H_nil ?_; simp [hq])
  | (refine V_sseq ?_; simp [hq])
  | (refine V_scond ?_; simp [hq])
  | (refine V_sblock ?_; simp [hq])
  | (refine V_sregion ?_; simp [hq])
  | (refine V_skip ?_; simp only [RunK])
  | (refine ⟨fun hc => ?_, fun hc => ?_⟩ <;> (try (exfalso; omega)))
  | (refine CallP.fun_ (h0) (by first | rfl | fail) (by first | assumption | (simp; done) | fail) (by first | (simp [hq]; done) | (simp [hq]; rfl) | fail) (by first | (simp; done) | fail) (fun d hd => ?_); subst hd; (try simp [hq]))
  | fail)
  all_goals first
   | (have _ : q = 1 := (by first | assumption | fail); refine CallP_wk ?_ (key [102, 105, 110, 101] (by simp [clausesL])); exact (Wk.auto _ (by simp [rhoL, idOf, St.lp, keepE, getK_cons, getK, getK_del, getK_setOb] <;> rfl) rfl (by simp [hn]) (by simp [rhoF, wkER, St.lp, keepE, getK_cons, getK, getK_del, getK_setOb, D.under, D.le, D.ren, byCells, ints] <;> (try (intros; simp_all; done)) <;> (try omega)) (by simp [rhoF, wkR, St.lp, getK_cons, getK, getK_del, getK_setOb, obR, leU, pureRow, pureRows, Ob.under, D.under, D.le, D.ren, byCells, ints] <;> (try (intros; simp_all; done)) <;> (try omega)) (by simp [rhoF])))
   | (have _ : q = 2 := (by first | assumption | fail); refine CallP_wk ?_ (key [112, 97, 121] (by simp [clausesL])); exact (Wk.auto _ (by simp [rhoL, idOf, St.lp, keepE, getK_cons, getK, getK_del, getK_setOb] <;> rfl) rfl (by simp [hn]) (by simp [rhoF, wkER, St.lp, keepE, getK_cons, getK, getK_del, getK_setOb, D.under, D.le, D.ren, byCells, ints] <;> (try (intros; simp_all; done)) <;> (try omega)) (by simp [rhoF, wkR, St.lp, getK_cons, getK, getK_del, getK_setOb, obR, leU, pureRow, pureRows, Ob.under, D.under, D.le, D.ren, byCells, ints] <;> (try (intros; simp_all; done)) <;> (try omega)) (by simp [rhoF])))
   | (have _ : q = 3 := (by first | assumption | fail); refine CallP_wk ?_ (key [99, 111, 118, 101, 114] (by simp [clausesL])); exact (Wk.auto _ (by simp [rhoL, idOf, St.lp, keepE, getK_cons, getK, getK_del, getK_setOb] <;> rfl) rfl (by simp [hn]) (by simp [rhoF, wkER, St.lp, keepE, getK_cons, getK, getK_del, getK_setOb, D.under, D.le, D.ren, byCells, ints] <;> (try (intros; simp_all; done)) <;> (try omega)) (by simp [rhoF, wkR, St.lp, getK_cons, getK, getK_del, getK_setOb, obR, leU, pureRow, pureRows, Ob.under, D.under, D.le, D.ren, byCells, ints] <;> (try (intros; simp_all; done)) <;> (try omega)) (by simp [rhoF])))
   | (have _ : q = 4 := (by first | assumption | fail); refine CallP_wk ?_ (key [104, 111, 108, 100] (by simp [clausesL])); exact (Wk.auto _ (by simp [rhoL, idOf, St.lp, keepE, getK_cons, getK, getK_del, getK_setOb] <;> rfl) rfl (by simp [hn]) (by simp [rhoF, wkER, St.lp, keepE, getK_cons, getK, getK_del, getK_setOb, D.under, D.le, D.ren, byCells, ints] <;> (try (intros; simp_all; done)) <;> (try omega)) (by simp [rhoF, wkR, St.lp, getK_cons, getK, getK_del, getK_setOb, obR, leU, pureRow, pureRows, Ob.under, D.under, D.le, D.ren, byCells, ints] <;> (try (intros; simp_all; done)) <;> (try omega)) (by simp [rhoF])))
   | (refine CallP_wk ?_ (key [100, 117, 101] (by simp [clausesL])); exact (Wk.auto _ (by simp [rhoL, idOf, St.lp, keepE, getK_cons, getK, getK_del, getK_setOb] <;> rfl) rfl (by simp [hn]) (by simp [rhoF, wkER, St.lp, keepE, getK_cons, getK, getK_del, getK_setOb, D.under, D.le, D.ren, byCells, ints] <;> (try (intros; simp_all; done)) <;> (try omega)) (by simp [rhoF, wkR, St.lp, getK_cons, getK, getK_del, getK_setOb, obR, leU, pureRow, pureRows, Ob.under, D.under, D.le, D.ren, byCells, ints] <;> (try (intros; simp_all; done)) <;> (try omega)) (by simp [rhoF])))
 case key =>
  intro c hc
  have h1 := fewLaws_fun b
  have h2 := checkP_fun b
  have h3 := names_ret c hc
  have hty := fun vars hv hin h => @typed_value b c vars h hc hv hin
  have hj := jOf_bound c
  have hlen := namesS_len c
  simp only [byCells, ints] at h1 h2 ⊢
  generalize jOf c = j at h3 hj
  have hj0 : ¬ j = 0 := by omega
  have hj1 : ¬ 0 = j := by omega
  cases hf : fewBy b with
  | false =>
   rw [hf] at h1
   repeat' (first
  | (refine H_cons ?_; simp)
  | (refine H_nil ?_; simp)
  | (refine V_sseq ?_; simp)
  | (refine V_scond ?_; simp)
  | (refine V_ret ?_; simp only [RunK])
  | (refine CallP.fun_ (h1) (by first | rfl | fail) (by first | assumption | (simp; done) | fail) (by first | (simp; done) | (simp; rfl) | fail) (by first | (simp; done) | fail) (fun d hd => ?_); subst hd; (try simp))
  | fail)
   refine EndW.here ?_
   (refine EndOK.val (.inr rfl) ?_; simp [resD, oneOrTup, pureD, Tryd.results8])
  | true =>
  rw [hf] at h1
  by_cases hn20 : 20 < (ns.length : Int)
  ·repeat' (first
  | (refine H_cons ?_; simp [hn20])
  | (refine H_nil ?_; simp [hn20])
  | (refine V_sseq ?_; simp [hn20])
  | (refine V_scond ?_; simp [hn20])
  | (refine V_ret ?_; simp only [RunK])
  | (refine CallP.fun_ (h1) (by first | rfl | fail) (by first | assumption | (simp; done) | fail) (by first | (simp [hn20]; done) | (simp [hn20]; rfl) | fail) (by first | (simp; done) | fail) (fun d hd => ?_); subst hd; (try simp [hn20]))
  | fail)
   refine EndW.here ?_
   (refine EndOK.val (.inr rfl) ?_; simp [resD, oneOrTup, pureD, Tryd.results8])
  by_cases hck : (checkP b).2 = 0
  ·rw [hck] at h2
   repeat' (first
  | (refine H_cons ?_; simp [hn20])
  | (refine H_nil ?_; simp [hn20])
  | (refine V_sseq ?_; simp [hn20])
  | (refine V_scond ?_; simp [hn20])
  | (refine V_sblock ?_; simp [hn20])
  | (refine V_skip ?_; simp only [RunK])
  | (refine CallP.fun_ (h1) (by first | rfl | fail) (by first | assumption | (simp; done) | fail) (by first | (simp [hn20]; done) | (simp [hn20]; rfl) | fail) (by first | (simp; done) | fail) (fun d hd => ?_); subst hd; (try simp [hn20]))
  | (refine CallP.fun_ (h2) (by first | rfl | fail) (by first | assumption | (simp; done) | fail) (by first | (simp [hn20]; done) | (simp [hn20]; rfl) | fail) (by first | (simp; done) | fail) (fun d hd => ?_); subst hd; (try simp [hn20]))
  | (refine CallP.ret0 (h3) (by rfl) (by first | assumption | simp) (by rfl) (by simp) ?_; rintro d o n' hn' ⟨rfl, rfl, rfl⟩; (try simp at hn'); (try simp [hn20]))
  | fail)
   have hNN : ∃ N, N = namesS c := ⟨_, rfl⟩
   obtain ⟨N, hN⟩ := hNN
   have hin0 := namesS_in c
   rw [← hN] at hlen hin0 ⊢
   have hty2 : ∀ i, _ := fun i => hty (putN N (ns.take i)) (by rw [putN_names, hN]) (putN_in _ _ hin0) hck
   refine V_loopO (α := { i : Nat // i ≤ N.length }) [2, 3, 7, 8] (fun i => [(12, .u (.int .i64 i.1)), (11, .vec 1 N.length)])
    (fun i => [(1, .vec 33 3 (rowsD (rowsV (putN N (ns.take i.1))))), (0, .box [.u (.int .i64 b.kind), .u (.int .i64 b.period), .u (.int .i64 b.grace), .u (.int .i64 b.wait), .u (.int .i64 b.last), .u (.int .i64 b.order), .u (.bool b.sld), .u (.int .i64 b.backs), .u (.int .i64 b.voices), .u (.int .i64 b.jury), .u (.int .i64 b.fund), .u (.sl (b.lets.map fun l => [.str l.name, .int .i64 l.body.op, .int .i64 l.body.n, .int .i64 l.body.unit, .str l.body.s, .sl (l.body.args.map Exp.row)])), .u (.int .i64 b.due.op), .u (.int .i64 b.due.n), .u (.int .i64 b.due.unit), .u (.str b.due.s), .u (.sl (b.due.args.map Exp.row)), .u (.int .i64 b.fine.op), .u (.int .i64 b.fine.n), .u (.int .i64 b.fine.unit), .u (.str b.fine.s), .u (.sl (b.fine.args.map Exp.row)), .u (.int .i64 b.pay.op), .u (.int .i64 b.pay.n), .u (.int .i64 b.pay.unit), .u (.str b.pay.s), .u (.sl (b.pay.args.map Exp.row)), .u (.int .i64 b.cover.op), .u (.int .i64 b.cover.n), .u (.int .i64 b.cover.unit), .u (.str b.cover.s), .u (.sl (b.cover.args.map Exp.row)), .u (.int .i64 b.hold.op), .u (.int .i64 b.hold.n), .u (.int .i64 b.hold.unit), .u (.str b.hold.s), .u (.sl (b.hold.args.map Exp.row))])]) 2
    (fun i => N.length - i.1) ⟨0, by omega⟩ ?_ ?_
   ·have e0 : putN N (ns.take 0) = N := putN_nil N
    exact (Wk.ren ((fun i => if i = 1 then j else i)) rfl (by first | (simp [hn]; done) | (intro i hi; rw [hn] at hi; constructor <;> (try simp) <;> (try (intro _)) <;> omega)) (by simp [wkER, St.lp, keepE, getK_cons, getK, getK_del, getK_setOb, D.under, D.le, D.ren, e0, hj0, hj1] <;> (try (intros; simp_all; done)) <;> (try omega)) (by simp [wkR, St.lp, getK_cons, getK, getK_del, getK_setOb, obR, leU, pureRow, pureRows, Ob.under, D.under, D.le, D.ren, e0, hj0, hj1] <;> (try (intros; simp_all; done)) <;> (try omega)) (by simp [e0, hj0, hj1]))
   rintro ⟨i, hi⟩
   have hRl : (rowsV (putN N (ns.take i))).length = N.length := by unfold rowsV; rw [List.length_map, putN_len]
   simp [St.lp, St.only, keepE, getK_cons, getK]
   rcases hx : N[i]? with _ | v
   ·have hge : N.length ≤ i := by simpa using hx
    obtain rfl : i = N.length := by omega
    have hv := hty2 N.length
    have h4 := clause_fun b c (putN N (ns.take N.length))
    have h5 := clause_fun b c (putN N (ns.take N.length) ++ putN N (ns.take N.length))
    rw [clauseP_twice] at h5
    have e4 : (putN N (ns.take N.length)).map (fun v => [U.str v.name, .int .i64 v.unit, .int .i64 v.n]) = rowsV (putN N (ns.take N.length)) := rfl
    simp only [byCells, varsU, List.map_append, e4] at h4 h5
    have hL3 := rowsV_lenR (putN N (ns.take N.length))
    have hO3 := rowsV_ones (putN N (ns.take N.length))
    have hc1 : N.length * 32 ≤ 140737488355328 := by omega
    have hc2 : N.length ≤ 9223372036854775807 := by omega
    have hc3 : (N.length + N.length) * 32 ≤ 140737488355328 := by omega
    have hc4 : N.length + N.length ≤ 9223372036854775807 := by omega
    generalize rowsV (putN N (ns.take N.length)) = R at hRl h4 h5 hL3 hO3
    rcases hval : clauseP b c (putN N (ns.take N.length)) with ⟨n, er⟩
    rw [hval] at h4 h5 hv
    simp only at h4 h5 hv
    repeat' (first
  | (refine H_cons ?_; simp [hRl, hL3, hO3, hc1, hc2, hc3, hc4])
  | (refine HD2_val rfl ?_; simp [hRl, hL3, hO3, hc1, hc2, hc3, hc4])
  | (refine HD2_chg rfl ?_; simp [hRl, hL3, hO3, hc1, hc2, hc3, hc4])
  | (refine H_nil ?_; simp [hRl, hL3, hO3, hc1, hc2, hc3, hc4])
  | (refine ⟨by omega, ?_⟩)
  | (refine V_sseq ?_; simp [hRl, hL3, hO3, hc1, hc2, hc3, hc4])
  | (refine V_scond ?_; simp [hRl, hL3, hO3, hc1, hc2, hc3, hc4])
  | (refine HD2_nil (hC _ (by kernel_rfl)) (hk _ ?_); clear hC hk C k; simp only [RunK])
  | (refine V_drawE rfl (by kernel_rfl) (by kernel_rfl) (by simp [hn]) fun C k hC hk => ?_; simp [hRl, hL3, hO3, hc1, hc2, hc3, hc4])
  | (refine V_ret ?_; simp only [RunK])
  | (refine V_skip ?_; simp only [RunK])
  | (refine V_exit ?_; simp [RunK])
  | (refine ⟨?_, by omega⟩)
  | (refine ⟨fun hc => ?_, fun hc => ?_⟩ <;> (try (exfalso; omega)))
  | (intro hc <;> (try (exfalso; omega)))
  | (refine CallP.fun_ (h4) (by first | rfl | fail) (by first | assumption | (simp; done) | fail) (by first | (simp [hRl, hL3, hO3, hc1, hc2, hc3, hc4]; done) | (simp [hRl, hL3, hO3, hc1, hc2, hc3, hc4]; rfl) | fail) (by first | (simp; done) | fail) (fun d hd => ?_); subst hd; (try simp [hRl, hL3, hO3, hc1, hc2, hc3, hc4]))
  | (refine CallV.fun_ (h5) (by first | rfl | fail) (by first | assumption | (simp; done) | fail) (by first | (simp [hRl, hL3, hO3, hc1, hc2, hc3, hc4]; done) | (simp [hRl, hL3, hO3, hc1, hc2, hc3, hc4]; rfl) | fail) (by first | (simp; done) | fail) ?_ <;> (try simp [hRl, hL3, hO3, hc1, hc2, hc3, hc4]))
  | fail)
    all_goals
     refine EndW.here ?_
     (refine EndOK.val (.inr rfl) ?_; simp [resD, oneOrTup, pureD, Tryd.results8])
    all_goals omega
   ·have hlt : i < N.length := (List.getElem?_eq_some_iff.1 hx).1
    have hrow := rowsV_at (putN_take (ns := ns) hx)
    by_cases hni : (i : Int) < ns.length
    ·obtain ⟨n, hnx⟩ : ∃ n, ns[i]? = some n := ⟨_, List.getElem?_eq_getElem (by omega)⟩
     have hnext := congrArg rowsV (putN_next hx hnx)
     rw [rowsV_set] at hnext
     repeat' (first
  | (refine H_cons ?_; simp [hni, hnx, hrow, hRl])
  | (refine H_nil ?_; simp [hni, hnx, hrow, hRl])
  | (refine ⟨by omega, ?_⟩)
  | (refine V_sseq ?_; simp [hni, hnx, hrow, hRl])
  | (refine V_scond ?_; simp [hni, hnx, hrow, hRl])
  | (refine V_sregion ?_; simp [hni, hnx, hrow, hRl])
  | (refine V_skip ?_; simp only [RunK])
  | (refine ⟨?_, by omega⟩)
  | (intro hc <;> (try (exfalso; omega)))
  | fail)
     refine LoopW.next ⟨i + 1, by omega⟩ (by simp; omega) ?_
     exact (Wk.cut rfl (by simp [hn, St.lp]) (by simp [wkO, St.lp, getK_cons, getK, Ob.under, D.under, under_rowsD, under_entD, hnext, clipC, rowsD_set3]) (by simp [wkU, St.lp, keepE, getK_cons, getK, D.under, hnext, clipC, rowsD_set3]) (by simp [wkE, St.lp, keepE, getK_cons, getK, hnext, clipC, rowsD_set3] <;> (try (intros; simp_all; done)) <;> (try (intros; omega)) <;> (try grind)))
    ·have hnext := congrArg rowsV (putN_stop (vs := N) (ns := ns) (i := i) (by omega))
     repeat' (first
  | (refine H_cons ?_; simp [hni])
  | (refine H_nil ?_; simp [hni])
  | (refine ⟨by omega, ?_⟩)
  | (refine V_sseq ?_; simp [hni])
  | (refine V_scond ?_; simp [hni])
  | (refine V_sregion ?_; simp [hni])
  | (refine V_skip ?_; simp only [RunK])
  | (refine ⟨?_, by omega⟩)
  | (intro hc <;> (try (exfalso; omega)))
  | fail)
     refine LoopW.next ⟨i + 1, by omega⟩ (by simp; omega) ?_
     exact (Wk.cut rfl (by simp [hn, St.lp]) (by simp [wkO, St.lp, getK_cons, getK, Ob.under, D.under, under_rowsD, under_entD, hnext]) (by simp [wkU, St.lp, keepE, getK_cons, getK, D.under, hnext]) (by simp [wkE, St.lp, keepE, getK_cons, getK, hnext] <;> (try (intros; simp_all; done)) <;> (try (intros; omega)) <;> (try grind)))
  ·repeat' (first
  | (refine H_cons ?_; simp [hn20, hck])
  | (refine H_nil ?_; simp [hn20, hck])
  | (refine V_sseq ?_; simp [hn20, hck])
  | (refine V_scond ?_; simp [hn20, hck])
  | (refine V_ret ?_; simp only [RunK])
  | (refine V_skip ?_; simp only [RunK])
  | (refine CallP.fun_ (h1) (by first | rfl | fail) (by first | assumption | (simp; done) | fail) (by first | (simp [hn20, hck]; done) | (simp [hn20, hck]; rfl) | fail) (by first | (simp; done) | fail) (fun d hd => ?_); subst hd; (try simp [hn20, hck]))
  | (refine CallP.fun_ (h2) (by first | rfl | fail) (by first | assumption | (simp; done) | fail) (by first | (simp [hn20, hck]; done) | (simp [hn20, hck]; rfl) | fail) (by first | (simp; done) | fail) (fun d hd => ?_); subst hd; (try simp [hn20, hck]))
  | fail)
   refine EndW.here ?_
   (refine EndOK.val (.inr rfl) ?_; simp [resD, oneOrTup, pureD, Tryd.results8])
end Go.Proofs.YtfcopibncpkdoaaDoor
namespace Go.Proofs.YtfcopibncpkdoaaDoor
open Go Go.VL Go.ChangeShapes Go.WideShapes Go.ChangeAt Go.RowKit
theorem Tryd.own : ownKnob Tryd.prog.godebug = none := by kernel_rfl
theorem Tryd.laidOut : laidOutB Tryd.prog = true := by kernel_rfl
theorem Tryd.seqs : seqAll Tryd.prog = true := by kernel_rfl
theorem exp_of : ∀ (m : Nat) (r : List U), SizeOf.sizeOf r ≤ m → HasRow Tryd.prog 24 r → ∃ e : Exp, r = e.row
 | 0, r, hm, _ => by cases r <;> simp at hm
 | m + 1, r, hm, h => by
  obtain ⟨rs, hr, h⟩ := h.of_struct sf24
  match rs, h with
  | [a, b, c, d, f], h =>
   obtain ⟨h1, h2, h3, h4, h5, _⟩ := h
   obtain ⟨x, rfl, _⟩ := h1.of_int io3
   obtain ⟨y, rfl, _⟩ := h2.of_int io3
   obtain ⟨z, rfl, _⟩ := h3.of_int io3
   obtain ⟨s, rfl, _⟩ := h4.of_str (by simp)
   obtain ⟨rows, rfl, _, h6⟩ := h5.of_slice es22
   have hsz : ∀ q ∈ rows, SizeOf.sizeOf q ≤ m := fun q hq => by
    have := List.sizeOf_lt_of_mem hq
    rw [hr] at hm
    simp at hm
    omega
   obtain ⟨l, rfl, _⟩ := rows_list Exp.row (fun _ => True) (rows := rows) fun q hq => by
    obtain ⟨e, he⟩ := exp_of m q (hsz q hq) (h6 q hq)
    exact ⟨e, he, trivial⟩
   exact ⟨.mk x y z s l, by rw [hr, Exp.row_eq]; rfl⟩
theorem expU_of {r : List U} (h : HasRow Tryd.prog 24 r) : ∃ e : Exp, r = [.int .i64 e.op, .int .i64 e.n, .int .i64 e.unit, .str e.s, .sl (e.args.map Exp.row)] := by
 obtain ⟨e, rfl⟩ := exp_of _ r (Nat.le_refl _) h
 exact ⟨e, e.row_eq⟩
theorem let_of {r : List U} (h : HasRow Tryd.prog 27 r) : ∃ l : Let, r = [.str l.name, .int .i64 l.body.op, .int .i64 l.body.n, .int .i64 l.body.unit, .str l.body.s, .sl (l.body.args.map Exp.row)] ∧ True := by
 obtain ⟨rs, hr, h⟩ := h.of_struct sf27
 match rs, h with
 | [a, b], h =>
  obtain ⟨h1, h2, _⟩ := h
  obtain ⟨x, rfl, _⟩ := h1.of_str (by simp)
  obtain ⟨e, rfl⟩ := expU_of h2
  exact ⟨⟨x, e⟩, by rw [hr]; rfl, trivial⟩
theorem int_of {u : U} (h : ArgU Tryd.prog 3 u) : ∃ n, u = .int .i64 n := by
 obtain ⟨n, h1, _⟩ := (h.one (by simp) (by simp)).of_int io3
 exact ⟨n, by simpa using h1⟩
theorem by_of {r : List U} (h : HasRow Tryd.prog 46 r) : ∃ b : By, r = byCells b := by
 obtain ⟨rs, hr, h⟩ := h.of_struct sf46
 match rs, h with
 | [a1, a2, a3, a4, a5, a6, a7, a8, a9, a10, a11, a12, a13, a14, a15, a16, a17], h =>
  obtain ⟨h1, h2, h3, h4, h5, h6, h7, h8, h9, h10, h11, h12, h13, h14, h15, h16, h17, _⟩ := h
  obtain ⟨x1, rfl, _⟩ := h1.of_int io3
  obtain ⟨x2, rfl, _⟩ := h2.of_int io3
  obtain ⟨x3, rfl, _⟩ := h3.of_int io3
  obtain ⟨x4, rfl, _⟩ := h4.of_int io3
  obtain ⟨x5, rfl, _⟩ := h5.of_int io3
  obtain ⟨x6, rfl, _⟩ := h6.of_int io3
  obtain ⟨x7, rfl⟩ := h7.of_bool (by simp)
  obtain ⟨x8, rfl, _⟩ := h8.of_int io3
  obtain ⟨x9, rfl, _⟩ := h9.of_int io3
  obtain ⟨x10, rfl, _⟩ := h10.of_int io3
  obtain ⟨x11, rfl, _⟩ := h11.of_int io3
  obtain ⟨rows, rfl, _, h12⟩ := h12.of_slice es30
  obtain ⟨l, rfl, _⟩ := rows_list (fun l : Let => [.str l.name, .int .i64 l.body.op, .int .i64 l.body.n, .int .i64 l.body.unit, .str l.body.s, .sl (l.body.args.map Exp.row)]) (fun _ => True) (rows := rows) fun r hr => let_of (h12 r hr)
  obtain ⟨e1, rfl⟩ := expU_of h13
  obtain ⟨e2, rfl⟩ := expU_of h14
  obtain ⟨e3, rfl⟩ := expU_of h15
  obtain ⟨e4, rfl⟩ := expU_of h16
  obtain ⟨e5, rfl⟩ := expU_of h17
  exact ⟨⟨x1, x2, x3, x4, x5, x6, x7, x8, x9, x10, x11, l, e1, e2, e3, e4, e5⟩, by rw [hr]; rfl⟩
end Go.Proofs.YtfcopibncpkdoaaDoor
namespace Go.VL
open Go
open Go.ChangeShapes Go.WideShapes Go.ChangeAt Go.WideMaps Go.WideElems Go.RowKit
theorem law_laid {H : Type} {enc : TypeId × Value → H} {C : Checked} {os : Os} {f : FuncId} {fn : Func} {s : ChangeSpec} {conds : List PathCond} {apart fresh handsOn again : Bool} {tb : TypeId} {laid : List (String × DataW Unit)}
  (own : ownKnob C.prog.godebug = none) (started : os.Started) (noInit : C.prog.inits.idxOf? f = none) (hfn : C.prog.funcs[f]? = some fn)
  (witness : ∃ (w : World) (tape : Tape) (i : Input), w.os = os ∧ (w.forCall tape i).Shaped C.prog ∧ i.vars = [] ∧ Input.okWide C.prog (w.forCall tape i) .any w.heap.size f i ∧
    ((s.pre enc C.prog fn conds apart (w.forCall tape i).memory i.args ∧ laidMetH C.prog laid (w.forCall tape i).memory) ∧ sizedMet enc C.prog fn (OpenSpec.ofChange s) apart (w.forCall tape i).memory i.args) ∧ (({} : Assume)).holds C.prog (lone (Frame.enter C.prog f i.args .normal) [] (w.forCall tape i)))
  (hl : laidOutB C.prog = true) (hseq : seqAll C.prog = true) (hpar : (fn.params.toList.all fun t => C.prog.readableRec t && decide (t < C.prog.types.size)) = true)
  (hvars : s.vars = []) (hspec : ∀ ds : List (DataW H), ds.length = fn.params.size → s.fn H ds = { results := [.lit (.bool true)], args := ds })
  (hres : fn.resultTypes = #[tb]) (htb : C.prog.underlying tb = some .bool)
  (hfun : ∀ us : List U, ArgsU C.prog fn.params.toList us → Fun C.prog f (us.map .u) (· = .u (.bool true))) (hglob : ∀ W : World, laidMetH C.prog laid W → GlobIn (wmem W)) :
  ReturnsInHanded {} C os f .any (fun w args => (s.pre enc C.prog fn conds apart w args ∧ laidMetH C.prog laid w) ∧ sizedMet enc C.prog fn (OpenSpec.ofChange s) apart w args) (s.post enc C.prog fn apart fresh handsOn again) := by
 refine returnsInHanded_of_change_and (X := fun w _ => laidMetH C.prog laid w) (fun _ _ _ hh h => h.of_heap hh) own started noInit hfn witness ?_
 intro W base args ds gs before hval hW _ _ hL _
 have hpar' : ∀ t ∈ fn.params.toList, C.prog.readableRec t = true ∧ t < C.prog.types.size := by
  intro t ht
  have := List.all_eq_true.1 hpar t ht
  simpa using this
 have hW' := hW
 obtain ⟨p, q, hA, hV, rfl, hfz, hnd⟩ := hW
 rw [hvars] at hV
 obtain ⟨rfl, rfl⟩ := trodVars_none hV
 have hlt : ∀ x ∈ p, x.block < W.heap.size := fun x hx => hW'.lt x (by simp [hx])
 obtain ⟨us, h1, h2⟩ := args_rep hseq hA (fun t ht => (hpar' t ht).2) (fun j t v ht hv => hval j t v (by simpa using ht) (by simpa using hv))
 refine (calls_of_fun (hfun us h1) (hglob W hL) h2).mono ?_
 rintro e W' ⟨rfl, hb⟩
 have hdl : ds.length = fn.params.size := by
  have : ∀ {ts : List TypeId} {vs : List Value} {ds : List (DataW H)} {p : List MemPlace}, DataW.TrodAll enc C.prog W 0 (fun _ => true) true ts vs ds p → ds.length = ts.length := by
   intro ts
   induction ts with
   | nil => intro vs ds p h; cases vs <;> cases ds <;> simp_all [DataW.TrodAll]
   | cons t ts ih =>
    intro vs ds p h
    cases vs <;> cases ds <;> simp only [DataW.TrodAll] at h
    obtain ⟨p, q, _, h2, _⟩ := h
    simp [ih h2]
  simpa using this hA
 have hs := hspec ds hdl
 refine ⟨_, rfl, post_below (pa := p) (pv := []) hW' (fun b sp hd => ?_) (fun sp hsp => ?_) (fun sp _ => ?_) rfl hb (fun j t r ht hr => ?_)⟩
 ·rw [List.append_nil, hs, hres]
  exact trodAll_mk1 ⟨1, by simp [DataW.trod, Value.cells, htb]⟩
 ·rw [List.append_nil, hs]
  exact trodAll_below hl hb hpar' hA hlt fun x hx => hsp x (by simp [hx])
 ·rw [List.append_nil, hs, hvars]
  try rfl
 ·rw [hres] at ht hr
  cases j with
  | zero =>
   simp at ht
   subst ht
   simp [Value.resultList] at hr
   subst hr
   simp [Value.okWide, htb, Cell.okWide, Cell.ok]
  | succ j => simp at ht
/-- The cells of a listed array of strings. -/
theorem cells_strings {P : Program} {w : World} {n : String} {g : Nat} {t e : TypeId} {cs : Array Value} {L : List (List UInt8)} {fuel : Nat} {H : Type} {enc : TypeId × Value → H} {base : Nat} {spare : Nat → Bool} {held : Bool} {q : List MemPlace}
  (hg : P.globalNamed n = some g) (hv : w.var? P n = some cs) (ht : P.underlying t = some (.array L.length e)) (he : P.underlying e = some .string) (hc : P.cellsOf e = 1)
  (hd : DataW.trod enc P w base spare held fuel t cs.toList = some (.agg (L.map fun b => .lit (.string b)), q)) : ∀ (j : Nat) (b : List UInt8), L[j]? = some b → w.cell? ⟨g, j, none⟩ = some (.string ⟨b.toArray⟩) := by
 intro j b hj
 obtain ⟨xs, m1, rfl, hx1, hlen, hn3, hel⟩ := DataW.trod_array ht hd
 have hjl := (List.getElem?_eq_some_iff.1 hj).1
 have h := hel j hjl
 rw [hc, Nat.mul_one] at h
 simp only [Prod.mk.injEq, DataW.agg.injEq] at hx1
 obtain ⟨x, hx⟩ : ∃ x, xs[j]? = some x := ⟨_, List.getElem?_eq_getElem (by omega)⟩
 rw [hx] at h
 obtain ⟨s, h1, h2, _⟩ := DataW.trod_string he h
 have h3 : (L.map fun b => (DataW.lit (.string b) : DataW H))[j]? = (xs.map (·.1))[j]? := by rw [hx1.1]
 rw [List.getElem?_map, List.getElem?_map, hj, hx, h2] at h3
 simp only [Option.map_some, Option.some.injEq, DataW.lit.injEq, Lit.string.injEq] at h3
 have h4 : (cs.toList.drop j)[0]? = some (.string s) := by
  have : ((cs.toList.drop j).take 1)[0]? = some (.string s) := by rw [h1]; rfl
  simpa [List.getElem?_take] using this
 rw [List.getElem?_drop, Nat.add_zero] at h4
 rw [World.var?_cell hg hv j]
 rw [Array.getElem?_toList] at h4
 rw [h4, h3]
end Go.VL
namespace Go.Proofs.YtfcopibncpkdoaaDoor
open Go Go.VL
abbrev laidL : List (String × DataW Unit) := [("stokvel/lex.signs", Rows.laid_stokvel_lex_signs)]
theorem door_met (os : Os) (args : Array Value) : laidMetH Tryd.prog laidL ((World.doorLaid Tryd.prog 400 os).forCall (fun _ _ => 0) ⟨#[], args, []⟩).memory :=
 laidMetH_of_parts3 (fuel := 8) (laidMet_of_run' 8 (by kernel_rfl) (by kernel_rfl)) (by kernel_rfl) (by kernel_rfl)
def signsA : List (List UInt8) := [[61, 61], [59], [44], [61], [60], [43], [45], [42], [47], [40], [41]]
theorem glob_laid (W : World) (h : laidMetH Tryd.prog laidL W) : GlobIn (wmem W) := by
 rw [MakeChecks.laidMetH_plain _ _ _ (by kernel_rfl)] at h
 obtain ⟨ps, ⟨g0, t0, cs0, f0, p0, q0, hg0, ht0, hv0, hd0, _⟩, _⟩ := h
 obtain rfl : g0 = 0 := Option.some.inj (hg0.symm.trans (by kernel_rfl))
 have hu : Tryd.prog.underlying 159 = some (.array signsA.length 9) := by kernel_rfl
 obtain rfl : t0 = 159 := Option.some.inj (ht0.symm.trans (by kernel_rfl))
 have hc := cells_strings (L := signsA) hg0 hv0 hu (by kernel_rfl) (by kernel_rfl) hd0
 intro p hp j hj
 simp only [globs, List.mem_cons, List.not_mem_nil, or_false] at hp
 subst hp
 have hj' : j < 11 := hj
 have hlen : signsA.length = 11 := rfl
 have hs : signsA[j]? = some (signsA.getD j []) := by
  rw [List.getElem?_eq_getElem (by omega)]
  simp [show j < signsA.length by omega]
 have h2 := look_cell (hc j _ hs)
 have h3 : (Value.string ⟨(signsA.getD j []).toArray⟩) = (globs.head!.2.getD j undef) := by
  have : ∀ i, i < 11 → (Value.string ⟨(signsA.getD i []).toArray⟩) = (globs.head!.2.getD i undef) := by
   intro i hi
   match i, hi with
   | 0, _ | 1, _ | 2, _ | 3, _ | 4, _ | 5, _ | 6, _ | 7, _ | 8, _ | 9, _ | 10, _ => rfl
   | i + 11, h => omega
  exact this j hj'
 show VL.look W 0 j = some (.val (globs.head!.2.getD j undef))
 rw [← h3]
 exact h2
end Go.Proofs.YtfcopibncpkdoaaDoor
namespace Go.Proofs.YtfcopibncpkdoaaDoor
open Go Go.VL Go.ChangeShapes Go.WideShapes Go.ChangeAt Go.RowKit
theorem ints_of {u : U} (h : ArgU Tryd.prog 41 u) : ∃ l : List Int, u = ints l := by
 obtain ⟨rows, h1, _, h2⟩ := (h.one (by simp) (by simp)).of_slice es41
 obtain ⟨l, rfl, _⟩ := rows_list (fun n : Int => [.int .i64 n]) (fun _ => True) fun r hr => by
  obtain ⟨n, e, _⟩ := (h2 r hr).of_int io3
  exact ⟨n, e, trivial⟩
 exact ⟨l, by simp at h1; exact h1⟩
end Go.Proofs.YtfcopibncpkdoaaDoor
