/- The reference: clauses, the check; what is few. -/
import Derived.Test.YtehlmagdlkcifaaUm
set_option linter.all false
set_option maxRecDepth 100000
set_option maxHeartbeats 8000000
namespace Go.Proofs.Ytehlmagdlkcifaa
open Go Go.VL
attribute [local simp] hcons hstep evPure opd uOf putOK St.put St.at getK binD binI binS binB nilD aggD eqUs cmpK lookD lookR rangeD nextD entryD keyD valU keyU lookK mkV entD_nil lookK_entD updK_entD1 updK_entD2 updK_entD3 allUE allUE_entD makeMapD mapUpdD mapEff updK valM Key.kk shiftI arith unD convD pickD loadD cellsAt fieldAddrD fieldD indexAddrD indexD sliceD cutD lenD minmaxD nilCheckD buildD fillD cellsD isOne ones setAll mkAgg allU allocD boxD storeD St.add buildSliceD appendD rowsOf makeD setOb getK_setOb getK_del getK_cons stripL strip guardTmp entry chunks zcells valD argsV argsW argW argU1 argU0 argsU0 argsU1 calleeOf scalarD scalarU delAll effD St.effS RK_seq RK_seq_ret RK_seq_exit RK_blk RK_blk_ret RK_blk_exit RK_loop RK_loop_ret RK_loop_exit RK_done vs_seq vs_block vs_skip vs_label vs_exit vs_ret vs_cond vs_region vs_loop vs_draw vs_range vs_scope applyW mkD rdIds lentIds callOf calleeOf freeOp D.ids Op.operands Call.operands isEffOp IntKind.bits allU2 allU2_append List.take_of_length_le List.range_succ
attribute [local irreducible] V G H HD HD2 RunK Eff CallP CallV EndOK Fun Ret FinOK LoopI LoopW EndW
def clausesL : List (List UInt8) := [[100, 117, 101], [102, 105, 110, 101], [112, 97, 121], [99, 111, 118, 101, 114], [104, 111, 108, 100]]
theorem clauses_fun : Fun Try.prog 21 [] (· = .u (strs clausesL)) := by
  unfold strs clausesL
  (refine Fun.of_bodyW Try.func21 rfl (by simp) fun Γ hn => ?_); simp only [entry, List.zipIdx_cons, List.zipIdx_nil, List.map_cons, List.map_nil, Nat.zero_add, Try.ntmps21]
  repeat' (first
    | (refine H_cons ?_; simp [zcells, chunks])
    | (refine H_nil ?_; simp [zcells, chunks])
    | (refine V_sseq ?_; simp [zcells, chunks])
    | (refine V_ret ?_; simp only [RK_seq, RK_seq_ret, RK_seq_exit, RK_blk, RK_blk_ret, RK_blk_exit, RK_loop, RK_loop_ret, RK_loop_exit, RK_done])
    | fail)
  (refine EndW.frzN 1 ?_; simp [frzN, frz1, frz_env, frz_obs, St.frz, St.frzS, frzS, fv, fzVec, fzMap, fzBox, frzObS, frz_entD, frz_rowsD, del, frz, frzOb])
  refine EndW.here ?_
  (refine EndOK.val (.inr rfl) ?_; simp [resD, oneOrTup, pureD, Try.results21])
def expS (b : By) (c : List UInt8) : Exp :=
  if c = [100, 117, 101] then b.due else if c = [102, 105, 110, 101] then b.fine else if c = [112, 97, 121] then b.pay else if c = [99, 111, 118, 101, 114] then b.cover else b.hold
theorem exp_fun (b : By) (c : List UInt8) : Fun Try.prog 22 [.u (.agg (byCells b)), .u (.str c)] (· = eagg (expS b c)) := by
  unfold expS eagg
  (refine Fun.of_body Try.func22 rfl (by simp) fun Γ hn => ?_); simp only [entry, List.zipIdx_cons, List.zipIdx_nil, List.map_cons, List.map_nil, Nat.zero_add, Try.ntmps22]
  simp only [byCells]
  repeat' (first
    | (refine H_cons ?_; simp)
    | (refine H_nil ?_; simp)
    | (refine V_sseq ?_; simp)
    | (refine V_scond ?_; simp)
    | (refine V_sblock ?_; simp)
    | (refine V_ret ?_; simp only [RK_seq, RK_seq_ret, RK_seq_exit, RK_blk, RK_blk_ret, RK_blk_exit, RK_loop, RK_loop_ret, RK_loop_exit, RK_done])
    | (refine V_skip ?_; simp only [RK_seq, RK_seq_ret, RK_seq_exit, RK_blk, RK_blk_ret, RK_blk_exit, RK_loop, RK_loop_ret, RK_loop_exit, RK_done])
    | (refine ⟨fun hc => ?_, fun hc => ?_⟩ <;> (try (exfalso; omega)))
    | fail)
  all_goals
    (refine EndOK.val (.inr rfl) ?_; simp [resD, oneOrTup, pureD, Try.results22])
  all_goals (simp_all; done)
def givenB (s : List UInt8) : Bool := clausesL.any fun c => (namesS c).any fun v => decide (v.name = s)
theorem rGiven_fun (s : List UInt8) : Fun Try.prog 20 [.u (.str s)] (· = .u (.bool (givenB s))) := by
  have h1 := clauses_fun
  simp only [strs] at h1
  unfold givenB
  generalize hC : clausesL = C at h1 ⊢
  have hl : C.length = 5 := by rw [← hC]; rfl
  clear hC
  generalize hg : (C.any fun c => (namesS c).any fun v => decide (v.name = s)) = g
  (refine Fun.of_body Try.func20 rfl (by simp) fun Γ hn => ?_); simp only [entry, List.zipIdx_cons, List.zipIdx_nil, List.map_cons, List.map_nil, Nat.zero_add, Try.ntmps20]
  repeat' (first
    | (refine H_cons ?_; simp)
    | (refine H_nil ?_; simp)
    | (refine V_sseq ?_; simp)
    | (refine V_sblock ?_; simp)
    | (refine CallP.fun_ (h1) (by first | rfl | fail) (by first | assumption | (simp; done) | fail) (by first | (simp; done) | (simp; rfl) | fail) (by first | (simp; done) | fail) (fun d hd => ?_); subst hd; (try simp))
    | fail)
  refine V_loopF (α := { i : Nat // i ≤ C.length ∧ ∀ c ∈ C.take i, ∀ v ∈ namesS c, ¬ v.name = s }) [0, 3] (fun i => [(4, .u (.int .i64 i.1))]) (fun i => C.length - i.1) ⟨0, by omega, by simp⟩ ?_ ?_
  · exact (Wk.env rfl rfl rfl (by simp [wkE, St.lp, keepE, getK_cons, getK] <;> (try (intros; simp_all; done)) <;> (try (intros; omega)) <;> (try grind)))
  rintro ⟨i, hi, hb⟩
  simp [St.lp, St.only, keepE, getK_cons, getK]
  rcases hx : C[i]? with _ | c
  · have hge : C.length ≤ i := by simpa using hx
    obtain rfl : i = C.length := by omega
    rw [List.take_length] at hb
    have hgf : g = false := by
      rw [← hg, List.any_eq_false]
      intro c hc
      simp only [Bool.not_eq_true, List.any_eq_false, decide_eq_true_eq]
      exact hb c hc
    repeat' (first
    | (refine H_cons ?_; simp [hx])
    | (refine H_nil ?_; simp [hx])
    | (refine V_sseq ?_; simp [hx])
    | (refine V_scond ?_; simp [hx])
    | (refine V_ret ?_; simp only [RK_seq, RK_seq_ret, RK_seq_exit, RK_blk, RK_blk_ret, RK_blk_exit, RK_loop, RK_loop_ret, RK_loop_exit, RK_done])
    | (refine V_exit ?_; simp [RK_seq, RK_seq_ret, RK_seq_exit, RK_blk, RK_blk_ret, RK_blk_exit, RK_loop, RK_loop_ret, RK_loop_exit, RK_done])
    | fail)
    (refine EndOK.val (.inr rfl) ?_; simp [resD, oneOrTup, pureD, Try.results20])
    rw [hgf]
  · have hlt : i < C.length := (List.getElem?_eq_some_iff.1 hx).1
    have h2 := rNames_fun c
    have hml := List.mem_of_getElem? hx
    simp only [varsU] at h2
    generalize hN : namesS c = N at h2
    have hNl : N.length ≤ 5 := by rw [← hN]; unfold namesS; repeat' split
                                  all_goals simp
    repeat' (first
    | (refine H_cons ?_; simp [hx])
    | (refine H_nil ?_; simp [hx])
    | (refine V_sseq ?_; simp [hx])
    | (refine V_scond ?_; simp [hx])
    | (refine V_sblock ?_; simp [hx])
    | (refine V_skip ?_; simp only [RK_seq, RK_seq_ret, RK_seq_exit, RK_blk, RK_blk_ret, RK_blk_exit, RK_loop, RK_loop_ret, RK_loop_exit, RK_done])
    | (refine ⟨?_, by omega⟩)
    | (intro hc <;> (try (exfalso; omega)))
    | (refine CallP.fun_ (h2) (by first | rfl | fail) (by first | assumption | (simp; done) | fail) (by first | (simp [hx]; done) | (simp [hx]; rfl) | fail) (by first | (simp; done) | fail) (fun d hd => ?_); subst hd; (try simp [hx]))
    | fail)
    refine V_loopF (α := { k : Nat // k ≤ N.length ∧ ∀ v ∈ N.take k, ¬ v.name = s }) [0, 3, 4, 5] (fun k => [(6, .u (.int .i64 k.1))]) (fun k => N.length - k.1) ⟨0, by omega, by simp⟩ ?_ ?_
    · exact (Wk.env rfl rfl rfl (by simp [wkE, St.lp, keepE, getK_cons, getK] <;> (try (intros; simp_all; done)) <;> (try (intros; omega)) <;> (try grind)))
    rintro ⟨k, hk, hd⟩
    simp [St.lp, St.only, keepE, getK_cons, getK]
    rcases hy : N[k]? with _ | v
    · have hgk : N.length ≤ k := by simpa using hy
      obtain rfl : k = N.length := by omega
      rw [List.take_length] at hd
      repeat' (first
    | (refine H_cons ?_; simp [hx, hy])
    | (refine H_nil ?_; simp [hx, hy])
    | (refine ⟨by omega, ?_⟩)
    | (refine V_sseq ?_; simp [hx, hy])
    | (refine V_scond ?_; simp [hx, hy])
    | (refine V_sregion ?_; simp [hx, hy])
    | (refine V_exit ?_; simp [RK_seq, RK_seq_ret, RK_seq_exit, RK_blk, RK_blk_ret, RK_blk_exit, RK_loop, RK_loop_ret, RK_loop_exit, RK_done])
    | fail)
      refine LoopW.next ⟨i + 1, by omega, take_succ_all hx hb (by rw [hN]; exact hd)⟩ (by simp; omega) ?_
      exact (Wk.env rfl rfl rfl (by simp [wkE, St.lp, keepE, getK_cons, getK] <;> (try (intros; simp_all; done)) <;> (try (intros; omega)) <;> (try grind)))
    · have hlk : k < N.length := (List.getElem?_eq_some_iff.1 hy).1
      repeat' (first
    | (refine H_cons ?_; simp [hx, hy])
    | (refine H_nil ?_; simp [hx, hy])
    | (refine ⟨by omega, ?_⟩)
    | (refine V_sseq ?_; simp [hx, hy])
    | (refine V_scond ?_; simp [hx, hy])
    | (refine V_sregion ?_; simp [hx, hy])
    | (refine V_ret ?_; simp only [RK_seq, RK_seq_ret, RK_seq_exit, RK_blk, RK_blk_ret, RK_blk_exit, RK_loop, RK_loop_ret, RK_loop_exit, RK_done])
    | (refine V_skip ?_; simp only [RK_seq, RK_seq_ret, RK_seq_exit, RK_blk, RK_blk_ret, RK_blk_exit, RK_loop, RK_loop_ret, RK_loop_exit, RK_done])
    | (refine ⟨?_, by omega⟩)
    | (refine ⟨fun hc => ?_, fun hc => ?_⟩ <;> (try (exfalso; omega)))
    | (intro hc <;> (try (exfalso; omega)))
    | fail)
      · (refine EndOK.val (.inr rfl) ?_; simp [resD, oneOrTup, pureD, Try.results20])
        have hyes : (C.any fun c => (namesS c).any fun v => decide (v.name = s)) = true := by
          rw [List.any_eq_true]
          exact ⟨c, hml, by rw [hN, List.any_eq_true]; exact ⟨v, List.mem_of_getElem? hy, by simp_all⟩⟩
        rw [← hg, hyes]
      · refine LoopW.next ⟨k + 1, by omega, take_succ_all hy hd (by assumption)⟩ (by simp; omega) ?_
        exact (Wk.env rfl rfl rfl (by simp [wkE, St.lp, keepE, getK_cons, getK] <;> (try (intros; simp_all; done)) <;> (try (intros; omega)) <;> (try grind)))
def checkC (b : By) : List (List UInt8) → List UInt8 × Int
  | [] => ([], 0)
  | c :: r => if (unitR b.lets (namesS c) (expS b c)).2 ≠ 0 then (c, (unitR b.lets (namesS c) (expS b c)).2) else if (unitR b.lets (namesS c) (expS b c)).1 ≠ 3 then (c, 14) else checkC b r
def checkR (b : By) : List UInt8 × Int := if rightBy b = false then ([], 1) else match b.lets.find? (fun l => givenB l.name) with | some l => (l.name, 5) | none => checkC b clausesL
theorem find_at {α : Type} {p : α → Bool} {l : List α} {i : Nat} {x : α} (h : ∀ c ∈ l.take i, p c = false) (hx : l[i]? = some x) (hp : p x = true) : l.find? p = some x := by
  induction l generalizing i with
  | nil => simp at hx
  | cons a l ih =>
    cases i with
    | zero => simp at hx; subst hx; simp [hp]
    | succ i =>
      rw [List.find?_cons, h a (by simp)]
      exact ih (i := i) (fun c hc => h c (by simp [hc])) (by simpa using hx)
theorem find_no {α : Type} {p : α → Bool} {l : List α} (h : ∀ c ∈ l, p c = false) : l.find? p = none := by
  rw [List.find?_eq_none]
  intro x hx
  simp [h x hx]
theorem checkC_at {b : By} {C : List (List UInt8)} {i : Nat} {c : List UInt8} (h : C[i]? = some c) : checkC b (C.drop i) = if (unitR b.lets (namesS c) (expS b c)).2 ≠ 0 then (c, (unitR b.lets (namesS c) (expS b c)).2) else if (unitR b.lets (namesS c) (expS b c)).1 ≠ 3 then (c, 14) else checkC b (C.drop (i + 1)) := by
  obtain ⟨hi, rfl⟩ := List.getElem?_eq_some_iff.1 h
  rw [List.drop_eq_getElem_cons hi, checkC]
theorem rCheck_fun (b : By) : Fun Try.prog 13 [.u (.agg (byCells b))] (· = .tup [.u (.str (checkR b).1), .u (.int .i64 (checkR b).2)]) := by
  have h0 := rrightBy_fun b
  have h1 := clauses_fun
  simp only [strs] at h1
  have hrb : rightBy b = true → b.lets.length ≤ 20 := fun h => by
    simp only [rightBy, Bool.and_eq_true, decide_eq_true_eq] at h
    exact h.1.1.2
  unfold checkR
  generalize rightBy b = rb at h0 hrb ⊢
  generalize hC : clausesL = C at h1 ⊢
  have hl : C.length = 5 := by rw [← hC]; rfl
  clear hC
  simp only [byCells] at h0
  cases rb
  · (refine Fun.of_body Try.func13 rfl (by simp) fun Γ hn => ?_); simp only [entry, List.zipIdx_cons, List.zipIdx_nil, List.map_cons, List.map_nil, Nat.zero_add, Try.ntmps13]
    simp only [byCells]
    repeat' (first
    | (refine H_cons ?_; simp)
    | (refine H_nil ?_; simp)
    | (refine V_sseq ?_; simp)
    | (refine V_scond ?_; simp)
    | (refine V_ret ?_; simp only [RK_seq, RK_seq_ret, RK_seq_exit, RK_blk, RK_blk_ret, RK_blk_exit, RK_loop, RK_loop_ret, RK_loop_exit, RK_done])
    | (refine CallP.fun_ (h0) (by first | rfl | fail) (by first | assumption | (simp; done) | fail) (by first | (simp; done) | (simp; rfl) | fail) (by first | (simp; done) | fail) (fun d hd => ?_); subst hd; (try simp))
    | fail)
    (refine EndOK.val (.inr rfl) ?_; simp [resD, oneOrTup, pureD, Try.results13])
  have h20 := hrb rfl
  (refine Fun.of_body Try.func13 rfl (by simp) fun Γ hn => ?_); simp only [entry, List.zipIdx_cons, List.zipIdx_nil, List.map_cons, List.map_nil, Nat.zero_add, Try.ntmps13]
  simp only [byCells]
  repeat' (first
    | (refine H_cons ?_; simp)
    | (refine H_nil ?_; simp)
    | (refine V_sseq ?_; simp)
    | (refine V_scond ?_; simp)
    | (refine V_sblock ?_; simp)
    | (refine V_skip ?_; simp only [RK_seq, RK_seq_ret, RK_seq_exit, RK_blk, RK_blk_ret, RK_blk_exit, RK_loop, RK_loop_ret, RK_loop_exit, RK_done])
    | (refine CallP.fun_ (h0) (by first | rfl | fail) (by first | assumption | (simp; done) | fail) (by first | (simp; done) | (simp; rfl) | fail) (by first | (simp; done) | fail) (fun d hd => ?_); subst hd; (try simp))
    | fail)
  refine V_loopF (α := { i : Nat // i ≤ b.lets.length ∧ ∀ l ∈ b.lets.take i, givenB l.name = false }) [1] (fun i => [(5, .u (.int .i64 i.1))]) (fun i => b.lets.length - i.1) ⟨0, by omega, by simp⟩ ?_ ?_
  · exact (Wk.cut rfl (by simp [hn]) (by simp [wkO, St.lp, getK_cons, getK, Ob.under, D.under, under_rowsD, under_entD]) (by simp [wkU, St.lp, keepE, getK_cons, getK, D.under]) (by simp [wkE, St.lp, keepE, getK_cons, getK] <;> (try (intros; simp_all; done)) <;> (try (intros; omega)) <;> (try grind)))
  rintro ⟨i, hi, hb⟩
  simp [St.lp, St.only, keepE, getK_cons, getK]
  rcases hx : b.lets[i]? with _ | l
  · have hge : b.lets.length ≤ i := by simpa using hx
    obtain rfl : i = b.lets.length := by omega
    rw [List.take_length] at hb
    have hfn := find_no (p := fun l : Let => givenB l.name) hb
    repeat' (first
    | (refine H_cons ?_; simp [hx])
    | (refine H_nil ?_; simp [hx])
    | (refine V_sseq ?_; simp [hx])
    | (refine V_scond ?_; simp [hx])
    | (refine V_sblock ?_; simp [hx])
    | (refine V_exit ?_; simp [RK_seq, RK_seq_ret, RK_seq_exit, RK_blk, RK_blk_ret, RK_blk_exit, RK_loop, RK_loop_ret, RK_loop_exit, RK_done])
    | (refine CallP.fun_ (h1) (by first | rfl | fail) (by first | assumption | (simp; done) | fail) (by first | (simp [hx]; done) | (simp [hx]; rfl) | fail) (by first | (simp; done) | fail) (fun d hd => ?_); subst hd; (try simp [hx]))
    | fail)
    refine V_loopF (α := { k : Nat // k ≤ C.length ∧ checkC b C = checkC b (C.drop k) }) [1, 6] (fun k => [(7, .u (.int .i64 k.1))]) (fun k => C.length - k.1) ⟨0, by omega, by simp⟩ ?_ ?_
    · exact (Wk.cut rfl (by simp [hn]) (by simp [wkO, St.lp, getK_cons, getK, Ob.under, D.under, under_rowsD, under_entD]) (by simp [wkU, St.lp, keepE, getK_cons, getK, D.under]) (by simp [wkE, St.lp, keepE, getK_cons, getK] <;> (try (intros; simp_all; done)) <;> (try (intros; omega)) <;> (try grind)))
    rintro ⟨k, hk, hd⟩
    simp [St.lp, St.only, keepE, getK_cons, getK]
    rcases hy : C[k]? with _ | c
    · have hgk : C.length ≤ k := by simpa using hy
      have hend : checkC b C = ([], 0) := by rw [hd, List.drop_of_length_le hgk]; rfl
      repeat' (first
    | (refine H_cons ?_; simp [hy])
    | (refine H_nil ?_; simp [hy])
    | (refine ⟨by omega, ?_⟩)
    | (refine V_sseq ?_; simp [hy])
    | (refine V_scond ?_; simp [hy])
    | (refine V_ret ?_; simp only [RK_seq, RK_seq_ret, RK_seq_exit, RK_blk, RK_blk_ret, RK_blk_exit, RK_loop, RK_loop_ret, RK_loop_exit, RK_done])
    | (refine V_exit ?_; simp [RK_seq, RK_seq_ret, RK_seq_exit, RK_blk, RK_blk_ret, RK_blk_exit, RK_loop, RK_loop_ret, RK_loop_exit, RK_done])
    | (intro hc <;> (try (exfalso; omega)))
    | fail)
      (refine EndOK.val (.inr rfl) ?_; simp [resD, oneOrTup, pureD, Try.results13])
      rw [hfn, hend]
      simp
    · have hlk : k < C.length := (List.getElem?_eq_some_iff.1 hy).1
      have hat := checkC_at (b := b) hy
      have h2 := rNames_fun c
      have h3 := exp_fun b c
      have h4 := rUnitOf_fun b.lets (namesS c) (expS b c)
      simp only [varsU, letsU, eagg, byCells] at h2 h3 h4
      generalize unitR b.lets (namesS c) (expS b c) = r at h4 hat
      obtain ⟨u, er⟩ := r
      repeat' (first
    | (refine H_cons ?_; simp [hy])
    | (refine HD_cons ?_; simp [hy])
    | (refine H_nil ?_; simp [hy])
    | (refine ⟨by omega, ?_⟩)
    | (refine V_sseq ?_; simp [hy])
    | (refine V_scond ?_; simp [hy])
    | (refine HD_nil ?_)
    | (refine hk _ ?_; clear hk k; simp only [RK_seq, RK_seq_ret, RK_seq_exit, RK_blk, RK_blk_ret, RK_blk_exit, RK_loop, RK_loop_ret, RK_loop_exit, RK_done])
    | (refine V_drawV rfl (by kernel_rfl) (by kernel_rfl) fun k hk => ?_; simp [hy])
    | (refine V_sregion ?_; simp [hy])
    | (refine V_ret ?_; simp only [RK_seq, RK_seq_ret, RK_seq_exit, RK_blk, RK_blk_ret, RK_blk_exit, RK_loop, RK_loop_ret, RK_loop_exit, RK_done])
    | (refine V_skip ?_; simp only [RK_seq, RK_seq_ret, RK_seq_exit, RK_blk, RK_blk_ret, RK_blk_exit, RK_loop, RK_loop_ret, RK_loop_exit, RK_done])
    | (refine ⟨?_, by omega⟩)
    | (refine ⟨fun hc => ?_, fun hc => ?_⟩ <;> (try (exfalso; omega)))
    | (intro hc <;> (try (exfalso; omega)))
    | (refine CallV.fun_ (h2) (by first | rfl | fail) (by first | assumption | (simp; done) | fail) (by first | (simp [hy]; done) | (simp [hy]; rfl) | fail) (by first | (simp; done) | fail) ?_ <;> (try simp [hy]))
    | (refine CallV.fun_ (h3) (by first | rfl | fail) (by first | assumption | (simp; done) | fail) (by first | (simp [hy]; done) | (simp [hy]; rfl) | fail) (by first | (simp; done) | fail) ?_ <;> (try simp [hy]))
    | (refine CallV.fun_ (h4) (by first | rfl | fail) (by first | assumption | (simp; done) | fail) (by first | (simp [hy]; done) | (simp [hy]; rfl) | fail) (by first | (simp; done) | fail) ?_ <;> (try simp [hy]))
    | fail)
      · (refine EndOK.val (.inr rfl) ?_; simp [resD, oneOrTup, pureD, Try.results13])
        rw [hfn, hd, hat]
        simp_all
      · (refine EndOK.val (.inr rfl) ?_; simp [resD, oneOrTup, pureD, Try.results13])
        rw [hfn, hd, hat]
        simp_all
      · refine LoopW.next ⟨k + 1, by omega, by rw [hd, hat]; simp_all⟩ (by simp; omega) ?_
        exact (Wk.cut rfl (by simp [hn]) (by simp [wkO, St.lp, getK_cons, getK, Ob.under, D.under, under_rowsD, under_entD]) (by simp [wkU, St.lp, keepE, getK_cons, getK, D.under]) (by simp [wkE, St.lp, keepE, getK_cons, getK] <;> (try (intros; simp_all; done)) <;> (try (intros; omega)) <;> (try grind)))
  · have hlt : i < b.lets.length := (List.getElem?_eq_some_iff.1 hx).1
    have h2 := rGiven_fun l.name
    have hfa := fun h => find_at (p := fun l : Let => givenB l.name) hb hx h
    generalize hgl : givenB l.name = gl at h2
    repeat' (first
    | (refine H_cons ?_; simp [hx])
    | (refine H_nil ?_; simp [hx])
    | (refine ⟨by omega, ?_⟩)
    | (refine V_sseq ?_; simp [hx])
    | (refine V_scond ?_; simp [hx])
    | (refine V_sregion ?_; simp [hx])
    | (refine V_ret ?_; simp only [RK_seq, RK_seq_ret, RK_seq_exit, RK_blk, RK_blk_ret, RK_blk_exit, RK_loop, RK_loop_ret, RK_loop_exit, RK_done])
    | (refine V_skip ?_; simp only [RK_seq, RK_seq_ret, RK_seq_exit, RK_blk, RK_blk_ret, RK_blk_exit, RK_loop, RK_loop_ret, RK_loop_exit, RK_done])
    | (refine ⟨?_, by omega⟩)
    | (refine ⟨fun hc => ?_, fun hc => ?_⟩ <;> (try (exfalso; omega)))
    | (intro hc <;> (try (exfalso; omega)))
    | (refine CallP.fun_ (h2) (by first | rfl | fail) (by first | assumption | (simp; done) | fail) (by first | (simp [hx]; done) | (simp [hx]; rfl) | fail) (by first | (simp; done) | fail) (fun d hd => ?_); subst hd; (try simp [hx]))
    | fail)
    · (refine EndOK.val (.inr rfl) ?_; simp [resD, oneOrTup, pureD, Try.results13])
      rw [hfa (by simp only [hgl]; assumption)]
      simp
    · refine LoopW.next ⟨i + 1, by omega, take_succ_all hx hb (by rw [hgl]; assumption)⟩ (by simp; omega) ?_
      exact (Wk.cut rfl (by simp [hn]) (by simp [wkO, St.lp, getK_cons, getK, Ob.under, D.under, under_rowsD, under_entD]) (by simp [wkU, St.lp, keepE, getK_cons, getK, D.under]) (by simp [wkE, St.lp, keepE, getK_cons, getK] <;> (try (intros; simp_all; done)) <;> (try (intros; omega)) <;> (try grind)))
def sameB (a b : List Var) : Bool := decide (a = b)
theorem same_fun (a b : List Var) (hla : a.length ≤ 9223372036854775807) : Fun Try.prog 16 [.u (varsU a), .u (varsU b)] (· = .u (.bool (decide (a = b)))) := by
  (refine Fun.of_body Try.func16 rfl (by simp) fun Γ hn => ?_); simp only [entry, List.zipIdx_cons, List.zipIdx_nil, List.map_cons, List.map_nil, Nat.zero_add, Try.ntmps16]
  simp only [varsU]
  by_cases hlen : a.length = b.length
  · repeat' (first
    | (refine H_cons ?_; simp [hlen])
    | (refine H_nil ?_; simp [hlen])
    | (refine V_sseq ?_; simp [hlen])
    | (refine V_scond ?_; simp [hlen])
    | (refine V_sblock ?_; simp [hlen])
    | (refine V_skip ?_; simp only [RK_seq, RK_seq_ret, RK_seq_exit, RK_blk, RK_blk_ret, RK_blk_exit, RK_loop, RK_loop_ret, RK_loop_exit, RK_done])
    | fail)
    refine V_loopF (α := { i : Nat // i ≤ a.length ∧ a.take i = b.take i }) [0, 1] (fun i => [(5, .u (.int .i64 i.1))]) (fun i => a.length - i.1) ⟨0, by omega, by simp⟩ ?_ ?_
    · exact (Wk.env rfl rfl rfl (by simp [wkE, St.lp, keepE, getK_cons, getK] <;> (try (intros; simp_all; done)) <;> (try (intros; omega)) <;> (try grind)))
    rintro ⟨i, hi, hb⟩
    simp [St.lp, St.only, keepE, getK_cons, getK]
    rcases hx : a[i]? with _ | v
    · have hge : a.length ≤ i := by simpa using hx
      rw [List.take_of_length_le hge, List.take_of_length_le (by omega)] at hb
      repeat' (first
    | (refine H_cons ?_; simp [hx])
    | (refine H_nil ?_; simp [hx])
    | (refine ⟨by omega, ?_⟩)
    | (refine V_sseq ?_; simp [hx])
    | (refine V_scond ?_; simp [hx])
    | (refine V_ret ?_; simp only [RK_seq, RK_seq_ret, RK_seq_exit, RK_blk, RK_blk_ret, RK_blk_exit, RK_loop, RK_loop_ret, RK_loop_exit, RK_done])
    | (refine V_exit ?_; simp [RK_seq, RK_seq_ret, RK_seq_exit, RK_blk, RK_blk_ret, RK_blk_exit, RK_loop, RK_loop_ret, RK_loop_exit, RK_done])
    | (intro hc <;> (try (exfalso; omega)))
    | fail)
      (refine EndOK.val (.inr rfl) ?_; simp [resD, oneOrTup, pureD, Try.results16])
      exact hb
    · have hlt : i < a.length := (List.getElem?_eq_some_iff.1 hx).1
      obtain ⟨w, hw⟩ : ∃ w, b[i]? = some w := ⟨b[i], List.getElem?_eq_getElem (by omega)⟩
      by_cases hvw : v = w
      · subst hvw
        repeat' (first
    | (refine H_cons ?_; simp [hx, hw])
    | (refine HD_cons ?_; simp [hx, hw])
    | (refine H_nil ?_; simp [hx, hw])
    | (refine ⟨by omega, ?_⟩)
    | (refine V_sseq ?_; simp [hx, hw])
    | (refine V_scond ?_; simp [hx, hw])
    | (refine HD_nil ?_)
    | (refine hk _ ?_; clear hk k; simp only [RK_seq, RK_seq_ret, RK_seq_exit, RK_blk, RK_blk_ret, RK_blk_exit, RK_loop, RK_loop_ret, RK_loop_exit, RK_done])
    | (refine V_drawV rfl (by kernel_rfl) (by kernel_rfl) fun k hk => ?_; simp [hx, hw])
    | (refine V_sregion ?_; simp [hx, hw])
    | (refine V_skip ?_; simp only [RK_seq, RK_seq_ret, RK_seq_exit, RK_blk, RK_blk_ret, RK_blk_exit, RK_loop, RK_loop_ret, RK_loop_exit, RK_done])
    | (refine ⟨?_, by omega⟩)
    | (intro hc <;> (try (exfalso; omega)))
    | fail)
        refine LoopW.next ⟨i + 1, by omega, ?_⟩ (by simp; omega) ?_
        · rw [List.take_succ_eq_append_getElem hlt, List.take_succ_eq_append_getElem (by omega), hb, (List.getElem?_eq_some_iff.1 hx).2, (List.getElem?_eq_some_iff.1 hw).2]
        · exact (Wk.env rfl rfl rfl (by simp [wkE, St.lp, keepE, getK_cons, getK] <;> (try (intros; simp_all; done)) <;> (try (intros; omega)) <;> (try grind)))
      · have hne : ¬ (v.name = w.name ∧ v.unit = w.unit ∧ v.n = w.n) := fun h => hvw (by cases v; cases w; simp_all)
        have hab : ¬ a = b := fun h => by subst h; rw [hx] at hw; exact hvw (Option.some.inj hw)
        repeat' (first
    | (refine H_cons ?_; simp [hx, hw])
    | (refine HD_cons ?_; simp [hx, hw])
    | (refine H_nil ?_; simp [hx, hw])
    | (refine ⟨by omega, ?_⟩)
    | (refine V_sseq ?_; simp [hx, hw])
    | (refine V_scond ?_; simp [hx, hw])
    | (refine HD_nil ?_)
    | (refine hk _ ?_; clear hk k; simp only [RK_seq, RK_seq_ret, RK_seq_exit, RK_blk, RK_blk_ret, RK_blk_exit, RK_loop, RK_loop_ret, RK_loop_exit, RK_done])
    | (refine V_drawV rfl (by kernel_rfl) (by kernel_rfl) fun k hk => ?_; simp [hx, hw])
    | (refine V_sregion ?_; simp [hx, hw])
    | (refine V_ret ?_; simp only [RK_seq, RK_seq_ret, RK_seq_exit, RK_blk, RK_blk_ret, RK_blk_exit, RK_loop, RK_loop_ret, RK_loop_exit, RK_done])
    | (refine V_skip ?_; simp only [RK_seq, RK_seq_ret, RK_seq_exit, RK_blk, RK_blk_ret, RK_blk_exit, RK_loop, RK_loop_ret, RK_loop_exit, RK_done])
    | (refine ⟨?_, by omega⟩)
    | (refine ⟨fun hc => ?_, fun hc => ?_⟩ <;> (try (exfalso; omega)))
    | (intro hc <;> (try (exfalso; omega)))
    | fail)
        · (refine EndOK.val (.inr rfl) ?_; simp [resD, oneOrTup, pureD, Try.results16])
          exact hab
        · exfalso
          simp_all
  · have hab : ¬ a = b := fun h => hlen (by rw [h])
    repeat' (first
    | (refine H_cons ?_; simp)
    | (refine H_nil ?_; simp)
    | (refine V_sseq ?_; simp)
    | (refine V_scond ?_; simp)
    | (refine V_ret ?_; simp only [RK_seq, RK_seq_ret, RK_seq_exit, RK_blk, RK_blk_ret, RK_blk_exit, RK_loop, RK_loop_ret, RK_loop_exit, RK_done])
    | (refine ⟨?_, by omega⟩)
    | (intro hc <;> (try (exfalso; omega)))
    | fail)
    all_goals first
      | (exfalso; omega)
      | ((refine EndOK.val (.inr rfl) ?_; simp [resD, oneOrTup, pureD, Try.results16]); exact hab)
end Go.Proofs.Ytehlmagdlkcifaa
