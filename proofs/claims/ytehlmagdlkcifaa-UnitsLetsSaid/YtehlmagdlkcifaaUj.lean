/- Right expressions and bylaws, as the reference says: the expressions and the bylaws. -/
import Derived.Test.YtehlmagdlkcifaaUe
set_option linter.all false
set_option maxRecDepth 100000
set_option maxHeartbeats 8000000
namespace Go.Proofs.Ytehlmagdlkcifaa
open Go Go.VL
attribute [local simp] hcons hstep evPure opd uOf putOK St.put St.at getK binD binI binS binB nilD aggD eqUs cmpK lookD lookR rangeD nextD entryD keyD valU keyU lookK mkV entD_nil lookK_entD updK_entD1 updK_entD2 updK_entD3 allUE allUE_entD makeMapD mapUpdD mapEff updK valM Key.kk shiftI arith unD convD pickD loadD cellsAt fieldAddrD fieldD indexAddrD indexD sliceD cutD lenD minmaxD nilCheckD buildD fillD cellsD isOne ones setAll mkAgg allU allocD boxD storeD St.add buildSliceD appendD rowsOf makeD setOb getK_setOb getK_del getK_cons stripL strip guardTmp entry chunks zcells valD argsV argsW argW argU1 argU0 argsU0 argsU1 calleeOf scalarD scalarU delAll effD St.effS RK_seq RK_seq_ret RK_seq_exit RK_blk RK_blk_ret RK_blk_exit RK_loop RK_loop_ret RK_loop_exit RK_done vs_seq vs_block vs_skip vs_label vs_exit vs_ret vs_cond vs_region vs_loop vs_draw vs_range vs_scope applyW mkD rdIds lentIds callOf calleeOf freeOp D.ids Op.operands Call.operands isEffOp IntKind.bits allU2 allU2_append List.take_of_length_le List.range_succ
attribute [local irreducible] V G H HD HD2 RunK Eff CallP CallV EndOK Fun Ret FinOK LoopI LoopW EndW
theorem rright_fun : ∀ (d : Nat) (e : Exp), (d : Int) ≤ 100 → Fun Try.prog 73 [eagg e, .u (.int .i64 d)] (· = .u (.bool (rightB d e)))
  | 0, e, _ => by
    (refine Fun.of_body Try.func73 rfl (by simp) fun Γ hn => ?_); simp only [entry, List.zipIdx_cons, List.zipIdx_nil, List.map_cons, List.map_nil, Nat.zero_add, Try.ntmps73]
    simp only [eagg]
    repeat' (first
    | (refine H_cons ?_; simp)
    | (refine H_nil ?_; simp)
    | (refine V_sseq ?_; simp)
    | (refine V_scond ?_; simp)
    | (refine V_ret ?_; simp only [RK_seq, RK_seq_ret, RK_seq_exit, RK_blk, RK_blk_ret, RK_blk_exit, RK_loop, RK_loop_ret, RK_loop_exit, RK_done])
    | fail)
    (refine EndOK.val (.inr rfl) ?_; simp [resD, oneOrTup, pureD, Try.results73])
    rfl
  | d + 1, e, hd => by
    by_cases hop : 0 ≤ e.op ∧ e.op < 14
    case neg =>
      have hf : rightB (d + 1) e = false := by
        rw [rightB]
        have : ¬ ((e.args.length : Int) = operandsI e.op) := by
          unfold operandsI
          split
          · omega
          · split
            · omega
            · split
              · omega
              · rw [if_pos (by omega)]; omega
        simp [this]
      rw [hf]
      (refine Fun.of_body Try.func73 rfl (by simp) fun Γ hn => ?_); simp only [entry, List.zipIdx_cons, List.zipIdx_nil, List.map_cons, List.map_nil, Nat.zero_add, Try.ntmps73]
      simp only [eagg]
      repeat' (first
    | (refine H_cons ?_; simp)
    | (refine H_nil ?_; simp)
    | (refine V_sseq ?_; simp)
    | (refine V_scond ?_; simp)
    | (refine V_ret ?_; simp only [RK_seq, RK_seq_ret, RK_seq_exit, RK_blk, RK_blk_ret, RK_blk_exit, RK_loop, RK_loop_ret, RK_loop_exit, RK_done])
    | (refine ⟨?_, by omega⟩)
    | (refine ⟨fun hc => ?_, fun hc => ?_⟩ <;> (try (exfalso; omega)))
    | (intro hc <;> (try (exfalso; omega)))
    | fail)
      all_goals
        (refine EndOK.val (.inr rfl) ?_; simp [resD, oneOrTup, pureD, Try.results73])
    obtain ⟨hop1, hop2⟩ := hop
    by_cases h0 : e.op = 0
    · have hs : rightB (d + 1) e = (decide (e.args.length = 0) && numB e) := by
        rw [rightB, h0]; simp [operandsI]
      rw [hs]
      unfold numB
      (refine Fun.of_body Try.func73 rfl (by simp) fun Γ hn => ?_); simp only [entry, List.zipIdx_cons, List.zipIdx_nil, List.map_cons, List.map_nil, Nat.zero_add, Try.ntmps73]
      simp only [eagg]
      repeat' (first
    | (refine H_cons ?_; simp [h0])
    | (refine H_nil ?_; simp [h0])
    | (refine V_sseq ?_; simp [h0])
    | (refine V_scond ?_; simp [h0])
    | (refine V_sblock ?_; simp [h0])
    | (refine V_sregion ?_; simp [h0])
    | (refine V_ret ?_; simp only [RK_seq, RK_seq_ret, RK_seq_exit, RK_blk, RK_blk_ret, RK_blk_exit, RK_loop, RK_loop_ret, RK_loop_exit, RK_done])
    | (refine V_skip ?_; simp only [RK_seq, RK_seq_ret, RK_seq_exit, RK_blk, RK_blk_ret, RK_blk_exit, RK_loop, RK_loop_ret, RK_loop_exit, RK_done])
    | (refine ⟨?_, by omega⟩)
    | (refine ⟨fun hc => ?_, fun hc => ?_⟩ <;> (try (exfalso; omega)))
    | (intro hc <;> (try (exfalso; omega)))
    | fail)
      all_goals
        (refine EndOK.val (.inr rfl) ?_; simp [resD, oneOrTup, pureD, Try.results73])
      all_goals (first | (simp_all; done) | grind)
    by_cases h1 : e.op = 1
    · have hs : rightB (d + 1) e = (decide (e.args.length = 0) && (decide (e.n = 0) && decide (e.unit = 0)) && nameB e.s) := by
        rw [rightB, h1]
        simp [operandsI]
        by_cases hn : e.n = 0 <;> by_cases hu : e.unit = 0 <;> simp [hn, hu]
      have h2 := rname_fun e.s
      rw [hs]
      generalize nameB e.s = b at h2 ⊢
      (refine Fun.of_body Try.func73 rfl (by simp) fun Γ hn => ?_); simp only [entry, List.zipIdx_cons, List.zipIdx_nil, List.map_cons, List.map_nil, Nat.zero_add, Try.ntmps73]
      simp only [eagg]
      repeat' (first
    | (refine H_cons ?_; simp [h0, h1])
    | (refine H_nil ?_; simp [h0, h1])
    | (refine V_sseq ?_; simp [h0, h1])
    | (refine V_scond ?_; simp [h0, h1])
    | (refine V_sblock ?_; simp [h0, h1])
    | (refine V_sregion ?_; simp [h0, h1])
    | (refine V_ret ?_; simp only [RK_seq, RK_seq_ret, RK_seq_exit, RK_blk, RK_blk_ret, RK_blk_exit, RK_loop, RK_loop_ret, RK_loop_exit, RK_done])
    | (refine V_skip ?_; simp only [RK_seq, RK_seq_ret, RK_seq_exit, RK_blk, RK_blk_ret, RK_blk_exit, RK_loop, RK_loop_ret, RK_loop_exit, RK_done])
    | (refine ⟨?_, by omega⟩)
    | (refine ⟨fun hc => ?_, fun hc => ?_⟩ <;> (try (exfalso; omega)))
    | (intro hc <;> (try (exfalso; omega)))
    | (refine CallP.fun_ (h2) (by first | rfl | fail) (by first | assumption | (simp; done) | fail) (by first | (simp [h0, h1]; done) | (simp [h0, h1]; rfl) | fail) (by first | (simp; done) | fail) (fun d hd => ?_); subst hd; (try simp [h0, h1]))
    | fail)
      all_goals
        (refine EndOK.val (.inr rfl) ?_; simp [resD, oneOrTup, pureD, Try.results73])
      all_goals (clear h2; first | (simp_all; done) | grind)
    have hs : rightB (d + 1) e = (decide ((e.args.length : Int) = operandsI e.op) && (decide (e.n = 0) && decide (e.unit = 0)) && decide (e.s = []) && e.args.all (rightB d)) := by
      rw [rightB, if_neg h0, if_neg h1]
      have : (!e.args.any fun x => !rightB d x) = e.args.all (rightB d) := by simp [List.all_eq_not_any_not]
      rw [this]
      by_cases hn : e.n = 0 <;> by_cases hu : e.unit = 0 <;> simp [hn, hu, Bool.and_assoc]
    rw [hs]
    clear hs
    have hk : ∀ k : Int, operandsI e.op = k → True := fun _ _ => trivial
    by_cases h12 : e.op = 12
    all_goals by_cases h13 : e.op = 13
    all_goals try (exfalso; omega)
    all_goals
      first
        | (have hopr : operandsI e.op = 1 := by first | (rw [h12]; rfl; done) | fail)
        | (have hopr : operandsI e.op = 3 := by first | (rw [h13]; rfl; done) | fail)
        | (have hopr : operandsI e.op = 2 := by
             unfold operandsI
             rw [if_neg (by omega), if_neg h12, if_neg h13, if_neg (by omega)])
      rw [hopr]
      (refine Fun.of_body Try.func73 rfl (by simp) fun Γ hn => ?_); simp only [entry, List.zipIdx_cons, List.zipIdx_nil, List.map_cons, List.map_nil, Nat.zero_add, Try.ntmps73]
      simp only [eagg]
      repeat' (first
    | (refine H_cons ?_; simp [h0, h1, h12, h13])
    | (refine H_nil ?_; simp [h0, h1, h12, h13])
    | (refine ⟨by omega, ?_⟩)
    | (refine V_sseq ?_; simp [h0, h1, h12, h13])
    | (refine V_scond ?_; simp [h0, h1, h12, h13])
    | (refine V_sblock ?_; simp [h0, h1, h12, h13])
    | (refine V_sregion ?_; simp [h0, h1, h12, h13])
    | (refine V_ret ?_; simp only [RK_seq, RK_seq_ret, RK_seq_exit, RK_blk, RK_blk_ret, RK_blk_exit, RK_loop, RK_loop_ret, RK_loop_exit, RK_done])
    | (refine V_skip ?_; simp only [RK_seq, RK_seq_ret, RK_seq_exit, RK_blk, RK_blk_ret, RK_blk_exit, RK_loop, RK_loop_ret, RK_loop_exit, RK_done])
    | (refine ⟨?_, by omega⟩)
    | (refine ⟨fun hc => ?_, fun hc => ?_⟩ <;> (try (exfalso; omega)))
    | (intro hc <;> (try (exfalso; omega)))
    | fail)
      all_goals try ((refine EndOK.val (.inr rfl) ?_; simp [resD, oneOrTup, pureD, Try.results73]); first | (simp_all; done) | (grind))
      all_goals
        refine V_loopF (α := { i : Nat // i ≤ e.args.length ∧ ∀ x ∈ e.args.take i, rightB d x = true }) [1, 2] (fun i => [(6, .u (.int .i64 i.1))]) (fun i => e.args.length - i.1) ⟨0, by omega, by simp⟩ ?_ ?_
        · exact (Wk.cut rfl (by simp [hn]) (by simp [wkO, St.lp, getK_cons, getK, Ob.under, D.under, under_rowsD, under_entD]) (by simp [wkU, St.lp, keepE, getK_cons, getK, D.under]) (by simp [wkE, St.lp, keepE, getK_cons, getK] <;> (try (intros; simp_all; done)) <;> (try (intros; omega)) <;> (try grind)))
        rintro ⟨i, hi, hb⟩
        simp [St.lp, St.only, keepE, getK_cons, getK]
        rcases hx : e.args[i]? with _ | x
        · have hge : e.args.length ≤ i := by simpa using hx
          obtain rfl : i = e.args.length := by omega
          rw [List.take_length] at hb
          have hall : e.args.all (rightB d) = true := List.all_eq_true.2 hb
          repeat' (first
    | (refine H_cons ?_; simp [hx])
    | (refine H_nil ?_; simp [hx])
    | (refine V_sseq ?_; simp [hx])
    | (refine V_scond ?_; simp [hx])
    | (refine V_ret ?_; simp only [RK_seq, RK_seq_ret, RK_seq_exit, RK_blk, RK_blk_ret, RK_blk_exit, RK_loop, RK_loop_ret, RK_loop_exit, RK_done])
    | (refine V_exit ?_; simp [RK_seq, RK_seq_ret, RK_seq_exit, RK_blk, RK_blk_ret, RK_blk_exit, RK_loop, RK_loop_ret, RK_loop_exit, RK_done])
    | fail)
          (refine EndOK.val (.inr rfl) ?_; simp [resD, oneOrTup, pureD, Try.results73])
          simp_all
        · have hlt : i < e.args.length := (List.getElem?_eq_some_iff.1 hx).1
          have h5 := rright_fun d x (by omega)
          simp only [eagg] at h5
          cases hrx : rightB d x
          · rw [hrx] at h5
            have hall : e.args.all (rightB d) = false := by
              rw [List.all_eq_false]
              exact ⟨x, List.mem_of_getElem? hx, by simp [hrx]⟩
            repeat' (first
    | (refine H_cons ?_; simp [hx, x.row_eq])
    | (refine H_nil ?_; simp [hx, x.row_eq])
    | (refine ⟨by omega, ?_⟩)
    | (refine V_sseq ?_; simp [hx, x.row_eq])
    | (refine V_scond ?_; simp [hx, x.row_eq])
    | (refine V_ret ?_; simp only [RK_seq, RK_seq_ret, RK_seq_exit, RK_blk, RK_blk_ret, RK_blk_exit, RK_loop, RK_loop_ret, RK_loop_exit, RK_done])
    | (refine V_skip ?_; simp only [RK_seq, RK_seq_ret, RK_seq_exit, RK_blk, RK_blk_ret, RK_blk_exit, RK_loop, RK_loop_ret, RK_loop_exit, RK_done])
    | (refine ⟨?_, by omega⟩)
    | (intro hc <;> (try (exfalso; omega)))
    | (refine CallP.fun_ (h5) (by first | rfl | fail) (by first | assumption | (simp; done) | fail) (by first | (simp [hx, x.row_eq]; done) | (simp [hx, x.row_eq]; rfl) | fail) (by first | (simp; done) | fail) (fun d hd => ?_); subst hd; (try simp [hx, x.row_eq]))
    | fail)
            (refine EndOK.val (.inr rfl) ?_; simp [resD, oneOrTup, pureD, Try.results73])
            simp_all
          · rw [hrx] at h5
            repeat' (first
    | (refine H_cons ?_; simp [hx, x.row_eq])
    | (refine H_nil ?_; simp [hx, x.row_eq])
    | (refine ⟨by omega, ?_⟩)
    | (refine V_sseq ?_; simp [hx, x.row_eq])
    | (refine V_scond ?_; simp [hx, x.row_eq])
    | (refine V_sregion ?_; simp [hx, x.row_eq])
    | (refine V_skip ?_; simp only [RK_seq, RK_seq_ret, RK_seq_exit, RK_blk, RK_blk_ret, RK_blk_exit, RK_loop, RK_loop_ret, RK_loop_exit, RK_done])
    | (refine ⟨?_, by omega⟩)
    | (intro hc <;> (try (exfalso; omega)))
    | (refine CallP.fun_ (h5) (by first | rfl | fail) (by first | assumption | (simp; done) | fail) (by first | (simp [hx, x.row_eq]; done) | (simp [hx, x.row_eq]; rfl) | fail) (by first | (simp; done) | fail) (fun d hd => ?_); subst hd; (try simp [hx, x.row_eq]))
    | fail)
            refine LoopW.next ⟨i + 1, by omega, take_succ_all hx hb hrx⟩ (by simp; omega) ?_
            exact (Wk.cut rfl (by simp [hn]) (by simp [wkO, St.lp, getK_cons, getK, Ob.under, D.under, under_rowsD, under_entD]) (by simp [wkU, St.lp, keepE, getK_cons, getK, D.under]) (by simp [wkE, St.lp, keepE, getK_cons, getK] <;> (try (intros; simp_all; done)) <;> (try (intros; omega)) <;> (try grind)))
theorem rrightExp_fun (e : Exp) : Fun Try.prog 55 [eagg e] (· = .u (.bool (rightB 12 e))) := by
  have h1 := rright_fun 12 e (by omega)
  simp only [eagg] at h1 ⊢
  (refine Fun.of_body Try.func55 rfl (by simp) fun Γ hn => ?_); simp only [entry, List.zipIdx_cons, List.zipIdx_nil, List.map_cons, List.map_nil, Nat.zero_add, Try.ntmps55]
  repeat' (first
    | (refine H_cons ?_; simp)
    | (refine H_nil ?_; simp)
    | (refine V_sseq ?_; simp)
    | (refine V_ret ?_; simp only [RK_seq, RK_seq_ret, RK_seq_exit, RK_blk, RK_blk_ret, RK_blk_exit, RK_loop, RK_loop_ret, RK_loop_exit, RK_done])
    | (refine CallP.fun_ (h1) (by first | rfl | fail) (by first | assumption | (simp; done) | fail) (by first | (simp; done) | (simp; rfl) | fail) (by first | (simp; done) | fail) (fun d hd => ?_); subst hd; (try simp))
    | fail)
  (refine EndOK.val (.inr rfl) ?_; simp [resD, oneOrTup, pureD, Try.results55])
theorem rrightBy_fun (b : By) : Fun Try.prog 41 [.u (.agg (byCells b))] (· = .u (.bool (rightBy b))) := by
  have hr : ∀ e : Exp, Fun Try.prog 55 [.u (.agg [.int .i64 e.op, .int .i64 e.n, .int .i64 e.unit, .str e.s, .sl (e.args.map Exp.row)])] (· = .u (.bool (rightB 12 e))) := fun e => rrightExp_fun e
  have e1 := hr b.due
  have e2 := hr b.fine
  have e3 := hr b.pay
  have e4 := hr b.cover
  have e5 := hr b.hold
  have hh : headB b = (decide (0 ≤ b.kind) && decide (b.kind < 3) && decide (0 ≤ b.order) && decide (b.order < 3) && decide (1 ≤ b.period) && decide (b.period ≤ 1000) && decide (1 ≤ b.last) && decide (b.last ≤ 1000) && decide (0 ≤ b.grace) && decide (b.grace ≤ 1000) && decide (0 ≤ b.wait) && decide (b.wait ≤ 1000) && decide (0 ≤ b.backs) && decide (b.backs ≤ 60) && decide (0 ≤ b.jury) && decide (b.jury ≤ 60) && decide (0 ≤ b.voices) && decide (b.voices ≤ 1000) && decide (0 ≤ b.fund) && decide (b.fund ≤ 1000)) := by
    rw [Bool.eq_iff_iff]
    simp [headB, inB]
    omega
  unfold rightBy expsB
  rw [hh]
  clear hh
  (refine Fun.of_body Try.func41 rfl (by simp) fun Γ hn => ?_); simp only [entry, List.zipIdx_cons, List.zipIdx_nil, List.map_cons, List.map_nil, Nat.zero_add, Try.ntmps41]
  simp only [byCells]
  repeat' (first
    | (refine H_cons ?_; simp)
    | (refine H_nil ?_; simp)
    | (refine V_sseq ?_; simp)
    | (refine V_scond ?_; simp)
    | (refine V_sblock ?_; simp)
    | (refine V_ret ?_; simp only [RK_seq, RK_seq_ret, RK_seq_exit, RK_blk, RK_blk_ret, RK_blk_exit, RK_loop, RK_loop_ret, RK_loop_exit, RK_done])
    | (refine V_skip ?_; simp only [RK_seq, RK_seq_ret, RK_seq_exit, RK_blk, RK_blk_ret, RK_blk_exit, RK_loop, RK_loop_ret, RK_loop_exit, RK_done])
    | (refine ⟨fun hc => ?_, fun hc => ?_⟩ <;> (try (exfalso; omega)))
    | fail)
  all_goals try ((refine EndOK.val (.inr rfl) ?_; simp [resD, oneOrTup, pureD, Try.results41]); clear e1 e2 e3 e4 e5 hr; first | (simp_all; done) | grind)
  all_goals
    refine V_loopF (α := { i : Nat // i ≤ b.lets.length ∧ letsB [] b.lets = letsB (b.lets.take i) (b.lets.drop i) }) [1] (fun i => [(3, .u (.int .i64 i.1))]) (fun i => b.lets.length - i.1) ⟨0, by omega, by simp⟩ ?_ ?_
    · exact (Wk.cut rfl (by simp [hn]) (by simp [wkO, St.lp, getK_cons, getK, Ob.under, D.under, under_rowsD, under_entD]) (by simp [wkU, St.lp, keepE, getK_cons, getK, D.under]) (by simp [wkE, St.lp, keepE, getK_cons, getK] <;> (try (intros; simp_all; done)) <;> (try (intros; omega)) <;> (try grind)))
    rintro ⟨i, hi, hb⟩
    simp [St.lp, St.only, keepE, getK_cons, getK]
    rcases hx : b.lets[i]? with _ | l
    · have hge : b.lets.length ≤ i := by simpa using hx
      have hb' : letsB [] b.lets = true := by rw [hb, List.drop_of_length_le hge]; rfl
      generalize rightB 12 b.due = x1 at e1 ⊢
      generalize rightB 12 b.fine = x2 at e2 ⊢
      generalize rightB 12 b.pay = x3 at e3 ⊢
      generalize rightB 12 b.cover = x4 at e4 ⊢
      generalize rightB 12 b.hold = x5 at e5 ⊢
      repeat' (first
    | (refine H_cons ?_; simp [hx])
    | (refine H_nil ?_; simp [hx])
    | (refine ⟨by omega, ?_⟩)
    | (refine V_sseq ?_; simp [hx])
    | (refine V_scond ?_; simp [hx])
    | (refine V_ret ?_; simp only [RK_seq, RK_seq_ret, RK_seq_exit, RK_blk, RK_blk_ret, RK_blk_exit, RK_loop, RK_loop_ret, RK_loop_exit, RK_done])
    | (refine V_exit ?_; simp [RK_seq, RK_seq_ret, RK_seq_exit, RK_blk, RK_blk_ret, RK_blk_exit, RK_loop, RK_loop_ret, RK_loop_exit, RK_done])
    | (refine ⟨fun hc => ?_, fun hc => ?_⟩ <;> (try (exfalso; omega)))
    | (intro hc <;> (try (exfalso; omega)))
    | (refine CallP.fun_ (e1) (by first | rfl | fail) (by first | assumption | (simp; done) | fail) (by first | (simp [hx]; done) | (simp [hx]; rfl) | fail) (by first | (simp; done) | fail) (fun d hd => ?_); subst hd; (try simp [hx]))
    | (refine CallP.fun_ (e2) (by first | rfl | fail) (by first | assumption | (simp; done) | fail) (by first | (simp [hx]; done) | (simp [hx]; rfl) | fail) (by first | (simp; done) | fail) (fun d hd => ?_); subst hd; (try simp [hx]))
    | (refine CallP.fun_ (e3) (by first | rfl | fail) (by first | assumption | (simp; done) | fail) (by first | (simp [hx]; done) | (simp [hx]; rfl) | fail) (by first | (simp; done) | fail) (fun d hd => ?_); subst hd; (try simp [hx]))
    | (refine CallP.fun_ (e4) (by first | rfl | fail) (by first | assumption | (simp; done) | fail) (by first | (simp [hx]; done) | (simp [hx]; rfl) | fail) (by first | (simp; done) | fail) (fun d hd => ?_); subst hd; (try simp [hx]))
    | (refine CallP.fun_ (e5) (by first | rfl | fail) (by first | assumption | (simp; done) | fail) (by first | (simp [hx]; done) | (simp [hx]; rfl) | fail) (by first | (simp; done) | fail) (fun d hd => ?_); subst hd; (try simp [hx]))
    | fail)
      all_goals
        (refine EndOK.val (.inr rfl) ?_; simp [resD, oneOrTup, pureD, Try.results41])
      all_goals
        clear hr e1 e2 e3 e4 e5
        grind
    · have hlt : i < b.lets.length := (List.getElem?_eq_some_iff.1 hx).1
      have hnx := letsB_at hx
      have e6 := rname_fun l.name
      have e7 := hr l.body
      have hnm : (b.lets.take i).length = i := by simp; omega
      have hbad : letsB (b.lets.take i) (b.lets.drop i) = false → letsB [] b.lets = false := fun h => by rw [hb, h]
      generalize nameB l.name = y1 at e6 hnx
      generalize rightB 12 l.body = y2 at e7 hnx
      repeat' (first
    | (refine H_cons ?_; simp [hx])
    | (refine H_nil ?_; simp [hx])
    | (refine V_sseq ?_; simp [hx])
    | (refine V_scond ?_; simp [hx])
    | (refine V_sblock ?_; simp [hx])
    | (refine V_ret ?_; simp only [RK_seq, RK_seq_ret, RK_seq_exit, RK_blk, RK_blk_ret, RK_blk_exit, RK_loop, RK_loop_ret, RK_loop_exit, RK_done])
    | (refine V_skip ?_; simp only [RK_seq, RK_seq_ret, RK_seq_exit, RK_blk, RK_blk_ret, RK_blk_exit, RK_loop, RK_loop_ret, RK_loop_exit, RK_done])
    | (refine ⟨?_, by omega⟩)
    | (refine ⟨fun hc => ?_, fun hc => ?_⟩ <;> (try (exfalso; omega)))
    | (intro hc <;> (try (exfalso; omega)))
    | (refine CallP.fun_ (e6) (by first | rfl | fail) (by first | assumption | (simp; done) | fail) (by first | (simp [hx]; done) | (simp [hx]; rfl) | fail) (by first | (simp; done) | fail) (fun d hd => ?_); subst hd; (try simp [hx]))
    | (refine CallP.fun_ (e7) (by first | rfl | fail) (by first | assumption | (simp; done) | fail) (by first | (simp [hx]; done) | (simp [hx]; rfl) | fail) (by first | (simp; done) | fail) (fun d hd => ?_); subst hd; (try simp [hx]))
    | fail)
      all_goals try ((refine EndOK.val (.inr rfl) ?_; simp [resD, oneOrTup, pureD, Try.results41]); rw [hbad (by rw [hnx]; simp_all)]; simp; done)
      all_goals
        refine V_loopF (α := { k : Nat // k ≤ i ∧ ∀ x ∈ b.lets.take k, ¬ x.name = l.name }) [1, 3] (fun k => [(4, .u (.int .i64 k.1))]) (fun k => i - k.1) ⟨0, by omega, by simp⟩ ?_ ?_
        · exact (Wk.cut rfl (by simp [hn]) (by simp [wkO, St.lp, getK_cons, getK, Ob.under, D.under, under_rowsD, under_entD]) (by simp [wkU, St.lp, keepE, getK_cons, getK, D.under]) (by simp [wkE, St.lp, keepE, getK_cons, getK] <;> (try (intros; simp_all; done)) <;> (try (intros; omega)) <;> (try grind)))
        rintro ⟨k, hk1, hk2⟩
        simp [St.lp, St.only, keepE, getK_cons, getK]
        by_cases hki : k = i
        · subst hki
          have hno : ((b.lets.take k).any fun x => decide (x.name = l.name)) = false := by
            rw [List.any_eq_false]
            intro x hx
            simpa using hk2 x hx
          rw [hno] at hnx
          repeat' (first
    | (refine H_cons ?_; simp [hx])
    | (refine H_nil ?_; simp [hx])
    | (refine ⟨by omega, ?_⟩)
    | (refine V_sseq ?_; simp [hx])
    | (refine V_scond ?_; simp [hx])
    | (refine V_sregion ?_; simp [hx])
    | (refine V_exit ?_; simp [RK_seq, RK_seq_ret, RK_seq_exit, RK_blk, RK_blk_ret, RK_blk_exit, RK_loop, RK_loop_ret, RK_loop_exit, RK_done])
    | fail)
          refine LoopW.next ⟨k + 1, by omega, by simp_all⟩ (by simp; omega) ?_
          exact (Wk.cut rfl (by simp [hn]) (by simp [wkO, St.lp, getK_cons, getK, Ob.under, D.under, under_rowsD, under_entD]) (by simp [wkU, St.lp, keepE, getK_cons, getK, D.under]) (by simp [wkE, St.lp, keepE, getK_cons, getK] <;> (try (intros; simp_all; done)) <;> (try (intros; omega)) <;> (try grind)))
        · have hki' : k < i := by omega
          obtain ⟨y, hy⟩ : ∃ y, b.lets[k]? = some y := ⟨b.lets[k], List.getElem?_eq_getElem (by omega)⟩
          repeat' (first
    | (refine H_cons ?_; simp [hx, hy])
    | (refine HD_cons ?_; simp [hx, hy])
    | (refine H_nil ?_; simp [hx, hy])
    | (refine ⟨by omega, ?_⟩)
    | (refine V_sseq ?_; simp [hx, hy])
    | (refine V_scond ?_; simp [hx, hy])
    | (refine HD_nil ?_)
    | (refine hk _ ?_; clear hk k; simp only [RK_seq, RK_seq_ret, RK_seq_exit, RK_blk, RK_blk_ret, RK_blk_exit, RK_loop, RK_loop_ret, RK_loop_exit, RK_done])
    | (refine V_drawV rfl (by kernel_rfl) (by kernel_rfl) fun k hk => ?_; simp [hx, hy])
    | (refine V_sregion ?_; simp [hx, hy])
    | (refine V_ret ?_; simp only [RK_seq, RK_seq_ret, RK_seq_exit, RK_blk, RK_blk_ret, RK_blk_exit, RK_loop, RK_loop_ret, RK_loop_exit, RK_done])
    | (refine V_skip ?_; simp only [RK_seq, RK_seq_ret, RK_seq_exit, RK_blk, RK_blk_ret, RK_blk_exit, RK_loop, RK_loop_ret, RK_loop_exit, RK_done])
    | (refine ⟨?_, by omega⟩)
    | (refine ⟨fun hc => ?_, fun hc => ?_⟩ <;> (try (exfalso; omega)))
    | (intro hc <;> (try (exfalso; omega)))
    | fail)
          · (refine EndOK.val (.inr rfl) ?_; simp [resD, oneOrTup, pureD, Try.results41])
            have hyes : ((b.lets.take i).any fun x => decide (x.name = l.name)) = true := by
              rw [List.any_eq_true]
              refine ⟨y, List.mem_of_getElem? (i := k) (by rw [List.getElem?_take, if_pos hki']; exact hy), by simp_all⟩
            rw [hbad (by rw [hnx, hyes]; simp)]
            simp
          · refine LoopW.next ⟨k + 1, by omega, take_succ_all hy hk2 (by assumption)⟩ (by simp; omega) ?_
            exact (Wk.cut rfl (by simp [hn]) (by simp [wkO, St.lp, getK_cons, getK, Ob.under, D.under, under_rowsD, under_entD]) (by simp [wkU, St.lp, keepE, getK_cons, getK, D.under]) (by simp [wkE, St.lp, keepE, getK_cons, getK] <;> (try (intros; simp_all; done)) <;> (try (intros; omega)) <;> (try grind)))
end Go.Proofs.Ytehlmagdlkcifaa
