/- What is few; the statements' own functions. -/
import Derived.Test.YtehlmagdlkcifaaUo
set_option linter.all false
set_option maxRecDepth 100000
set_option maxHeartbeats 8000000
namespace Go.Proofs.Ytehlmagdlkcifaa
open Go Go.VL
attribute [local simp] hcons hstep evPure opd uOf putOK St.put St.at getK binD binI binS binB nilD aggD eqUs cmpK lookD lookR rangeD nextD entryD keyD valU keyU lookK mkV entD_nil lookK_entD updK_entD1 updK_entD2 updK_entD3 allUE allUE_entD makeMapD mapUpdD mapEff updK valM Key.kk shiftI arith unD convD pickD loadD cellsAt fieldAddrD fieldD indexAddrD indexD sliceD cutD lenD minmaxD nilCheckD buildD fillD cellsD isOne ones setAll mkAgg allU allocD boxD storeD St.add buildSliceD appendD rowsOf makeD setOb getK_setOb getK_del getK_cons stripL strip guardTmp entry chunks zcells valD argsV argsW argW argU1 argU0 argsU0 argsU1 calleeOf scalarD scalarU delAll effD St.effS RK_seq RK_seq_ret RK_seq_exit RK_blk RK_blk_ret RK_blk_exit RK_loop RK_loop_ret RK_loop_exit RK_done vs_seq vs_block vs_skip vs_label vs_exit vs_ret vs_cond vs_region vs_loop vs_draw vs_range vs_scope applyW mkD rdIds lentIds callOf calleeOf freeOp D.ids Op.operands Call.operands isEffOp IntKind.bits allU2 allU2_append List.take_of_length_le List.range_succ
attribute [local irreducible] V G H HD HD2 RunK Eff CallP CallV EndOK Fun Ret FinOK LoopI LoopW EndW
def fewN (l : List Var) (n : Int) : Bool := (l.take (n.toNat + 1)).all (fun v => decide (v.name.length ≤ 60)) && decide ((l.length : Int) ≤ n)
theorem fewNames_fun (l : List Var) (n : Int) (h0 : 0 ≤ n) (h1 : n ≤ 1000) : Fun Try.prog 33 [.u (varsU l), .u (.int .i64 n)] (· = .u (.bool (fewN l n))) := by
  unfold fewN
  generalize hB : ((l.take (n.toNat + 1)).all fun v => decide (v.name.length ≤ 60)) = B
  (refine Fun.of_body Try.func33 rfl (by simp) fun Γ hn => ?_); simp only [entry, List.zipIdx_cons, List.zipIdx_nil, List.map_cons, List.map_nil, Nat.zero_add, Try.ntmps33]
  simp only [varsU]
  refine V_len (x := 0) rfl fun hl => ?_
  simp only [List.length_map] at hl
  repeat' (first
    | (refine H_cons ?_; simp)
    | (refine H_nil ?_; simp)
    | (refine V_sseq ?_; simp)
    | (refine V_sblock ?_; simp)
    | fail)
  refine V_loopF (α := { i : Nat // i ≤ l.length ∧ (i : Int) ≤ n + 1 ∧ ∀ v ∈ l.take i, decide (v.name.length ≤ 60) = true }) [0, 1] (fun i => [(5, .u (.int .i64 i.1))]) (fun i => l.length - i.1) ⟨0, by omega, by omega, by simp⟩ ?_ ?_
  · exact (Wk.env rfl rfl rfl (by simp [wkE, St.lp, keepE, getK_cons, getK] <;> (try (intros; simp_all; done)) <;> (try (intros; omega)) <;> (try grind)))
  rintro ⟨i, hi, hin, hb⟩
  simp [St.lp, St.only, keepE, getK_cons, getK]
  have fin : (i = l.length ∨ (i : Int) = n + 1) → B = true := fun h => by
    rw [← hB, List.all_eq_true]
    intro v hv
    refine hb v ?_
    rcases h with h | h
    · rw [h, List.take_length]; exact List.mem_of_mem_take hv
    · rw [show i = n.toNat + 1 by omega]; exact hv
  rcases hx : l[i]? with _ | v
  · have hge : l.length ≤ i := by simpa using hx
    obtain rfl : i = l.length := by omega
    have := fin (.inl rfl)
    repeat' (first
    | (refine H_cons ?_; simp [hx])
    | (refine H_nil ?_; simp [hx])
    | (refine V_sseq ?_; simp [hx])
    | (refine V_scond ?_; simp [hx])
    | (refine V_ret ?_; simp only [RK_seq, RK_seq_ret, RK_seq_exit, RK_blk, RK_blk_ret, RK_blk_exit, RK_loop, RK_loop_ret, RK_loop_exit, RK_done])
    | (refine V_exit ?_; simp [RK_seq, RK_seq_ret, RK_seq_exit, RK_blk, RK_blk_ret, RK_blk_exit, RK_loop, RK_loop_ret, RK_loop_exit, RK_done])
    | fail)
    all_goals
      (refine EndOK.val (.inr rfl) ?_; simp [resD, oneOrTup, pureD, Try.results33])
    all_goals simp [this]
  · have hlt : i < l.length := (List.getElem?_eq_some_iff.1 hx).1
    by_cases hm : (i : Int) ≤ n
    · repeat' (first
    | (refine H_cons ?_; simp [hx, hm])
    | (refine H_nil ?_; simp [hx, hm])
    | (refine ⟨by omega, ?_⟩)
    | (refine V_sseq ?_; simp [hx, hm])
    | (refine V_scond ?_; simp [hx, hm])
    | (refine V_sregion ?_; simp [hx, hm])
    | (refine V_ret ?_; simp only [RK_seq, RK_seq_ret, RK_seq_exit, RK_blk, RK_blk_ret, RK_blk_exit, RK_loop, RK_loop_ret, RK_loop_exit, RK_done])
    | (refine V_skip ?_; simp only [RK_seq, RK_seq_ret, RK_seq_exit, RK_blk, RK_blk_ret, RK_blk_exit, RK_loop, RK_loop_ret, RK_loop_exit, RK_done])
    | (refine ⟨?_, by omega⟩)
    | (refine ⟨fun hc => ?_, fun hc => ?_⟩ <;> (try (exfalso; omega)))
    | (intro hc <;> (try (exfalso; omega)))
    | fail)
      · (refine EndOK.val (.inr rfl) ?_; simp [resD, oneOrTup, pureD, Try.results33])
        have : B = false := by
          rw [← hB, List.all_eq_false]
          exact ⟨v, List.mem_of_getElem? (i := i) (by rw [List.getElem?_take, if_pos (by omega)]; exact hx), by simp; omega⟩
        simp [this]
      · refine LoopW.next ⟨i + 1, by omega, by omega, take_succ_all hx hb (by simp; omega)⟩ (by simp; omega) ?_
        exact (Wk.env rfl rfl rfl (by simp [wkE, St.lp, keepE, getK_cons, getK] <;> (try (intros; simp_all; done)) <;> (try (intros; omega)) <;> (try grind)))
    · have := fin (.inr (by omega))
      repeat' (first
    | (refine H_cons ?_; simp [hx, hm])
    | (refine H_nil ?_; simp [hx, hm])
    | (refine V_sseq ?_; simp [hx, hm])
    | (refine V_scond ?_; simp [hx, hm])
    | (refine V_ret ?_; simp only [RK_seq, RK_seq_ret, RK_seq_exit, RK_blk, RK_blk_ret, RK_blk_exit, RK_loop, RK_loop_ret, RK_loop_exit, RK_done])
    | (refine V_exit ?_; simp [RK_seq, RK_seq_ret, RK_seq_exit, RK_blk, RK_blk_ret, RK_blk_exit, RK_loop, RK_loop_ret, RK_loop_exit, RK_done])
    | (refine ⟨?_, by omega⟩)
    | (intro hc <;> (try (exfalso; omega)))
    | fail)
      (refine EndOK.val (.inr rfl) ?_; simp [resD, oneOrTup, pureD, Try.results33])
      simp [this]
/-- What the loop over the lets finds. -/
def fewLG (n m : Int) : List Let → Int → Int → Bool
  | [], _, _ => true
  | l :: r, i, p => if i ≤ m then (if 60 < l.name.length ∨ fewE l.body n = false then false else if 2000 < p * (1 + namesN l.body) then false else fewLG n m r (i + 1) (p * (1 + namesN l.body))) else true
def fewL (l : List Let) (m n : Int) : Bool := fewLG n m l 0 1 && decide ((l.length : Int) ≤ m)
theorem fewLets_fun (l : List Let) (m n : Int) (h0 : 0 ≤ n) (h1 : n ≤ 1000) (h2 : 0 ≤ m) (h3 : m ≤ 1000) : Fun Try.prog 27 [.u (letsU l), .u (.int .i64 m), .u (.int .i64 n)] (· = .u (.bool (fewL l m n))) := by
  unfold fewL
  generalize hB : fewLG n m l 0 1 = B
  (refine Fun.of_body Try.func27 rfl (by simp) fun Γ hn => ?_); simp only [entry, List.zipIdx_cons, List.zipIdx_nil, List.map_cons, List.map_nil, Nat.zero_add, Try.ntmps27]
  simp only [letsU]
  refine V_len (x := 0) rfl fun hl => ?_
  simp only [List.length_map] at hl
  repeat' (first
    | (refine H_cons ?_; simp)
    | (refine H_nil ?_; simp)
    | (refine V_sseq ?_; simp)
    | (refine V_sblock ?_; simp)
    | fail)
  refine V_loopF (α := { q : Nat × Int // q.1 ≤ l.length ∧ (q.1 : Int) ≤ m + 1 ∧ 1 ≤ q.2 ∧ q.2 ≤ 2000 ∧ B = fewLG n m (l.drop q.1) q.1 q.2 }) [0, 1, 2] (fun q => [(7, .u (.int .i64 q.1.2)), (8, .u (.int .i64 q.1.1))]) (fun q => l.length - q.1.1) ⟨(0, 1), by simp, by simp; omega, by simp, by simp, by simp [hB]⟩ ?_ ?_
  · exact (Wk.env rfl rfl rfl (by simp [wkE, St.lp, keepE, getK_cons, getK] <;> (try (intros; simp_all; done)) <;> (try (intros; omega)) <;> (try grind)))
  rintro ⟨⟨i, p⟩, hi, him, hp1, hp2, hb⟩
  simp only at hi him hp1 hp2 hb
  simp [St.lp, St.only, keepE, getK_cons, getK]
  rcases hx : l[i]? with _ | x
  · have hge : l.length ≤ i := by simpa using hx
    obtain rfl : i = l.length := by omega
    rw [List.drop_length, fewLG] at hb
    repeat' (first
    | (refine H_cons ?_; simp [hx])
    | (refine H_nil ?_; simp [hx])
    | (refine V_sseq ?_; simp [hx])
    | (refine V_scond ?_; simp [hx])
    | (refine V_ret ?_; simp only [RK_seq, RK_seq_ret, RK_seq_exit, RK_blk, RK_blk_ret, RK_blk_exit, RK_loop, RK_loop_ret, RK_loop_exit, RK_done])
    | (refine V_exit ?_; simp [RK_seq, RK_seq_ret, RK_seq_exit, RK_blk, RK_blk_ret, RK_blk_exit, RK_loop, RK_loop_ret, RK_loop_exit, RK_done])
    | fail)
    all_goals
      (refine EndOK.val (.inr rfl) ?_; simp [resD, oneOrTup, pureD, Try.results27])
    all_goals simp [hb]
  · have hlt : i < l.length := (List.getElem?_eq_some_iff.1 hx).1
    rw [List.drop_eq_getElem_cons hlt, (List.getElem?_eq_some_iff.1 hx).2, fewLG] at hb
    by_cases hm : (i : Int) ≤ m
    · rw [if_pos hm] at hb
      have h5 := fewExp_fun x.body n h0 h1
      simp only [eagg] at h5
      by_cases hn60 : 60 < x.name.length
      · rw [if_pos (.inl hn60)] at hb
        cases hf : fewE x.body n
        all_goals
          rw [hf] at h5
          repeat' (first
    | (refine H_cons ?_; simp [hx, hm])
    | (refine H_nil ?_; simp [hx, hm])
    | (refine ⟨by omega, ?_⟩)
    | (refine V_sseq ?_; simp [hx, hm])
    | (refine V_scond ?_; simp [hx, hm])
    | (refine V_ret ?_; simp only [RK_seq, RK_seq_ret, RK_seq_exit, RK_blk, RK_blk_ret, RK_blk_exit, RK_loop, RK_loop_ret, RK_loop_exit, RK_done])
    | (refine V_skip ?_; simp only [RK_seq, RK_seq_ret, RK_seq_exit, RK_blk, RK_blk_ret, RK_blk_exit, RK_loop, RK_loop_ret, RK_loop_exit, RK_done])
    | (refine ⟨?_, by omega⟩)
    | (intro hc <;> (try (exfalso; omega)))
    | fail)
          all_goals first
            | (exfalso; omega)
            | ((refine EndOK.val (.inr rfl) ?_; simp [resD, oneOrTup, pureD, Try.results27]); simp [hb]; done)
      · cases hf : fewE x.body n with
        | false =>
          rw [if_pos (.inr hf)] at hb
          rw [hf] at h5
          repeat' (first
    | (refine H_cons ?_; simp [hx, hm])
    | (refine H_nil ?_; simp [hx, hm])
    | (refine V_sseq ?_; simp [hx, hm])
    | (refine V_scond ?_; simp [hx, hm])
    | (refine V_ret ?_; simp only [RK_seq, RK_seq_ret, RK_seq_exit, RK_blk, RK_blk_ret, RK_blk_exit, RK_loop, RK_loop_ret, RK_loop_exit, RK_done])
    | (refine V_skip ?_; simp only [RK_seq, RK_seq_ret, RK_seq_exit, RK_blk, RK_blk_ret, RK_blk_exit, RK_loop, RK_loop_ret, RK_loop_exit, RK_done])
    | (refine ⟨?_, by omega⟩)
    | (intro hc <;> (try (exfalso; omega)))
    | (refine CallP.fun_ (h5) (by first | rfl | fail) (by first | assumption | (simp; done) | fail) (by first | (simp [hx, hm]; done) | (simp [hx, hm]; rfl) | fail) (by first | (simp; done) | fail) (fun d hd => ?_); subst hd; (try simp [hx, hm]))
    | fail)
          all_goals first
            | (exfalso; omega)
            | ((refine EndOK.val (.inr rfl) ?_; simp [resD, oneOrTup, pureD, Try.results27]); simp [hb]; done)
        | true =>
          rw [if_neg (by simp [hn60, hf])] at hb
          rw [hf] at h5
          have hfn : namesN x.body ≤ 1000 := by
            unfold fewE at hf
            simp only [decide_eq_true_eq] at hf
            have := few_names 16 x.body n h0 hf
            omega
          have hnn := namesN_nonneg x.body
          have h6 := rnames_fun _ x.body (Nat.le_refl _) (by omega)
          simp only [eagg] at h6
          generalize namesN x.body = y at h6 hb hfn hnn
          have hpy : p * (1 + y) ≤ 2000 * 1001 := Int.mul_le_mul hp2 (by omega) (by omega) (by omega)
          have hpy1 : 1 ≤ p * (1 + y) := by
            have := Int.mul_le_mul hp1 (show (1 : Int) ≤ 1 + y by omega) (by omega) (by omega)
            omega
          repeat' (first
    | (refine H_cons ?_; simp [hx, hm])
    | (refine H_nil ?_; simp [hx, hm])
    | (refine ⟨by omega, ?_⟩)
    | (refine V_sseq ?_; simp [hx, hm])
    | (refine V_scond ?_; simp [hx, hm])
    | (refine V_sregion ?_; simp [hx, hm])
    | (refine V_ret ?_; simp only [RK_seq, RK_seq_ret, RK_seq_exit, RK_blk, RK_blk_ret, RK_blk_exit, RK_loop, RK_loop_ret, RK_loop_exit, RK_done])
    | (refine V_skip ?_; simp only [RK_seq, RK_seq_ret, RK_seq_exit, RK_blk, RK_blk_ret, RK_blk_exit, RK_loop, RK_loop_ret, RK_loop_exit, RK_done])
    | (refine ⟨?_, by omega⟩)
    | (refine ⟨fun hc => ?_, fun hc => ?_⟩ <;> (try (exfalso; omega)))
    | (intro hc <;> (try (exfalso; omega)))
    | (refine CallP.fun_ (h5) (by first | rfl | fail) (by first | assumption | (simp; done) | fail) (by first | (simp [hx, hm]; done) | (simp [hx, hm]; rfl) | fail) (by first | (simp; done) | fail) (fun d hd => ?_); subst hd; (try simp [hx, hm]))
    | (refine CallP.fun_ (h6) (by first | rfl | fail) (by first | assumption | (simp; done) | fail) (by first | (simp [hx, hm]; done) | (simp [hx, hm]; rfl) | fail) (by first | (simp; done) | fail) (fun d hd => ?_); subst hd; (try simp [hx, hm]))
    | fail)
          all_goals first
            | (exfalso; omega)
            | ((refine EndOK.val (.inr rfl) ?_; simp [resD, oneOrTup, pureD, Try.results27]); rw [if_pos (by omega)] at hb; simp [hb]; done)
            | (refine LoopW.next ⟨(i + 1, p * (1 + y)), (by omega : i + 1 ≤ l.length), (by simp; omega), hpy1, (by omega : p * (1 + y) ≤ 2000), by rw [if_neg (by omega)] at hb; simpa using hb⟩ (by simp; omega) ?_; exact (Wk.env rfl rfl rfl (by simp [wkE, St.lp, keepE, getK_cons, getK] <;> (try (intros; simp_all; done)) <;> (try (intros; omega)) <;> (try grind))))
    · rw [if_neg hm] at hb
      repeat' (first
    | (refine H_cons ?_; simp [hx, hm])
    | (refine H_nil ?_; simp [hx, hm])
    | (refine V_sseq ?_; simp [hx, hm])
    | (refine V_scond ?_; simp [hx, hm])
    | (refine V_ret ?_; simp only [RK_seq, RK_seq_ret, RK_seq_exit, RK_blk, RK_blk_ret, RK_blk_exit, RK_loop, RK_loop_ret, RK_loop_exit, RK_done])
    | (refine V_exit ?_; simp [RK_seq, RK_seq_ret, RK_seq_exit, RK_blk, RK_blk_ret, RK_blk_exit, RK_loop, RK_loop_ret, RK_loop_exit, RK_done])
    | (refine ⟨?_, by omega⟩)
    | (intro hc <;> (try (exfalso; omega)))
    | fail)
      (refine EndOK.val (.inr rfl) ?_; simp [resD, oneOrTup, pureD, Try.results27])
      simp [hb]
def fewB (b : By) : Bool := fewL b.lets 22 40 && fewE b.due 40 && fewE b.fine 40 && fewE b.pay 40 && fewE b.cover 40 && fewE b.hold 40
theorem few_fun (b : By) : Fun Try.prog 9 [.u (.agg (byCells b))] (· = .u (.bool (fewB b))) := by
  have e0 := fewLets_fun b.lets 22 40 (by omega) (by omega) (by omega) (by omega)
  have e1 := fewExp_fun b.due 40 (by omega) (by omega)
  have e2 := fewExp_fun b.fine 40 (by omega) (by omega)
  have e3 := fewExp_fun b.pay 40 (by omega) (by omega)
  have e4 := fewExp_fun b.cover 40 (by omega) (by omega)
  have e5 := fewExp_fun b.hold 40 (by omega) (by omega)
  simp only [eagg, letsU] at e0 e1 e2 e3 e4 e5
  unfold fewB
  generalize fewL b.lets 22 40 = x0 at e0 ⊢
  generalize fewE b.due 40 = x1 at e1 ⊢
  generalize fewE b.fine 40 = x2 at e2 ⊢
  generalize fewE b.pay 40 = x3 at e3 ⊢
  generalize fewE b.cover 40 = x4 at e4 ⊢
  generalize fewE b.hold 40 = x5 at e5 ⊢
  (refine Fun.of_body Try.func9 rfl (by simp) fun Γ hn => ?_); simp only [entry, List.zipIdx_cons, List.zipIdx_nil, List.map_cons, List.map_nil, Nat.zero_add, Try.ntmps9]
  simp only [byCells]
  repeat' (first
    | (refine H_cons ?_; simp)
    | (refine H_nil ?_; simp)
    | (refine V_sseq ?_; simp)
    | (refine V_ret ?_; simp only [RK_seq, RK_seq_ret, RK_seq_exit, RK_blk, RK_blk_ret, RK_blk_exit, RK_loop, RK_loop_ret, RK_loop_exit, RK_done])
    | (refine ⟨fun hc => ?_, fun hc => ?_⟩ <;> (try (exfalso; omega)))
    | (refine CallP.fun_ (e0) (by first | rfl | fail) (by first | assumption | (simp; done) | fail) (by first | (simp; done) | (simp; rfl) | fail) (by first | (simp; done) | fail) (fun d hd => ?_); subst hd; (try simp))
    | (refine CallP.fun_ (e1) (by first | rfl | fail) (by first | assumption | (simp; done) | fail) (by first | (simp; done) | (simp; rfl) | fail) (by first | (simp; done) | fail) (fun d hd => ?_); subst hd; (try simp))
    | (refine CallP.fun_ (e2) (by first | rfl | fail) (by first | assumption | (simp; done) | fail) (by first | (simp; done) | (simp; rfl) | fail) (by first | (simp; done) | fail) (fun d hd => ?_); subst hd; (try simp))
    | (refine CallP.fun_ (e3) (by first | rfl | fail) (by first | assumption | (simp; done) | fail) (by first | (simp; done) | (simp; rfl) | fail) (by first | (simp; done) | fail) (fun d hd => ?_); subst hd; (try simp))
    | (refine CallP.fun_ (e4) (by first | rfl | fail) (by first | assumption | (simp; done) | fail) (by first | (simp; done) | (simp; rfl) | fail) (by first | (simp; done) | fail) (fun d hd => ?_); subst hd; (try simp))
    | (refine CallP.fun_ (e5) (by first | rfl | fail) (by first | assumption | (simp; done) | fail) (by first | (simp; done) | (simp; rfl) | fail) (by first | (simp; done) | fail) (fun d hd => ?_); subst hd; (try simp))
    | fail)
  all_goals
    (refine EndOK.val (.inr rfl) ?_; simp [resD, oneOrTup, pureD, Try.results9])
  all_goals (clear e0 e1 e2 e3 e4 e5; simp_all; done)
def few3 (lets : List Let) (given : List Var) (e : Exp) : Bool := fewL lets 10 40 && fewN given 10 && fewE e 40
theorem few3_fun (lets : List Let) (given : List Var) (e : Exp) : Fun Try.prog 8 [.u (letsU lets), .u (varsU given), eagg e] (· = .u (.bool (few3 lets given e))) := by
  have e0 := fewLets_fun lets 10 40 (by omega) (by omega) (by omega) (by omega)
  have e1 := fewNames_fun given 10 (by omega) (by omega)
  have e2 := fewExp_fun e 40 (by omega) (by omega)
  simp only [eagg, letsU, varsU] at e0 e1 e2 ⊢
  unfold few3
  generalize fewL lets 10 40 = x0 at e0 ⊢
  generalize fewN given 10 = x1 at e1 ⊢
  generalize fewE e 40 = x2 at e2 ⊢
  (refine Fun.of_body Try.func8 rfl (by simp) fun Γ hn => ?_); simp only [entry, List.zipIdx_cons, List.zipIdx_nil, List.map_cons, List.map_nil, Nat.zero_add, Try.ntmps8]
  repeat' (first
    | (refine H_cons ?_; simp)
    | (refine H_nil ?_; simp)
    | (refine V_sseq ?_; simp)
    | (refine V_ret ?_; simp only [RK_seq, RK_seq_ret, RK_seq_exit, RK_blk, RK_blk_ret, RK_blk_exit, RK_loop, RK_loop_ret, RK_loop_exit, RK_done])
    | (refine ⟨fun hc => ?_, fun hc => ?_⟩ <;> (try (exfalso; omega)))
    | (refine CallP.fun_ (e0) (by first | rfl | fail) (by first | assumption | (simp; done) | fail) (by first | (simp; done) | (simp; rfl) | fail) (by first | (simp; done) | fail) (fun d hd => ?_); subst hd; (try simp))
    | (refine CallP.fun_ (e1) (by first | rfl | fail) (by first | assumption | (simp; done) | fail) (by first | (simp; done) | (simp; rfl) | fail) (by first | (simp; done) | fail) (fun d hd => ?_); subst hd; (try simp))
    | (refine CallP.fun_ (e2) (by first | rfl | fail) (by first | assumption | (simp; done) | fail) (by first | (simp; done) | (simp; rfl) | fail) (by first | (simp; done) | fail) (fun d hd => ?_); subst hd; (try simp))
    | fail)
  all_goals
    (refine EndOK.val (.inr rfl) ?_; simp [resD, oneOrTup, pureD, Try.results8])
  all_goals (clear e0 e1 e2; simp_all; done)
-- expressions that are built
theorem lof_fun (n u : Int) : Fun Try.prog 25 [.u (.int .i64 n), .u (.int .i64 u)] (· = eagg (.mk 0 n u [] [])) := by
  simp only [eagg, Exp.op, Exp.n, Exp.unit, Exp.s, Exp.args, List.map_nil]
  (refine Fun.of_bodyW Try.func25 rfl (by simp) fun Γ hn => ?_); simp only [entry, List.zipIdx_cons, List.zipIdx_nil, List.map_cons, List.map_nil, Nat.zero_add, Try.ntmps25]
  repeat' (first
    | (refine H_cons ?_; simp)
    | (refine H_nil ?_; simp)
    | (refine V_sseq ?_; simp)
    | (refine V_ret ?_; simp only [RK_seq, RK_seq_ret, RK_seq_exit, RK_blk, RK_blk_ret, RK_blk_exit, RK_loop, RK_loop_ret, RK_loop_exit, RK_done])
    | fail)
  refine EndW.norm (EndW.here ?_)
  (refine EndOK.val (.inr rfl) ?_; simp [resD, oneOrTup, pureD, Try.results25, frz_obs, frz_env, norm_obs, norm_env, frz, frzOb, frzS, fv, fzVec, fzMap, fzBox, frzObS, frz_entD, frz_rowsD, normD, normU, norm1, normOb])
theorem lname_fun (s : List UInt8) : Fun Try.prog 31 [.u (.str s)] (· = eagg (.mk 1 0 0 s [])) := by
  simp only [eagg, Exp.op, Exp.n, Exp.unit, Exp.s, Exp.args, List.map_nil]
  (refine Fun.of_bodyW Try.func31 rfl (by simp) fun Γ hn => ?_); simp only [entry, List.zipIdx_cons, List.zipIdx_nil, List.map_cons, List.map_nil, Nat.zero_add, Try.ntmps31]
  repeat' (first
    | (refine H_cons ?_; simp)
    | (refine H_nil ?_; simp)
    | (refine V_sseq ?_; simp)
    | (refine V_ret ?_; simp only [RK_seq, RK_seq_ret, RK_seq_exit, RK_blk, RK_blk_ret, RK_blk_exit, RK_loop, RK_loop_ret, RK_loop_exit, RK_done])
    | fail)
  refine EndW.norm (EndW.here ?_)
  (refine EndOK.val (.inr rfl) ?_; simp [resD, oneOrTup, pureD, Try.results31, frz_obs, frz_env, norm_obs, norm_env, frz, frzOb, frzS, fv, fzVec, fzMap, fzBox, frzObS, frz_entD, frz_rowsD, normD, normU, norm1, normOb])
theorem lop_fun (o : Int) (a b : Exp) : Fun Try.prog 30 [.u (.int .i64 o), eagg a, eagg b] (· = eagg (.mk o 0 0 [] [a, b])) := by
  simp only [eagg, Exp.op, Exp.n, Exp.unit, Exp.s, Exp.args, List.map_nil, List.map_cons]
  (refine Fun.of_bodyW Try.func30 rfl (by simp) fun Γ hn => ?_); simp only [entry, List.zipIdx_cons, List.zipIdx_nil, List.map_cons, List.map_nil, Nat.zero_add, Try.ntmps30]
  repeat' (first
    | (refine H_cons ?_; simp [zcells, chunks])
    | (refine H_nil ?_; simp [zcells, chunks])
    | (refine V_sseq ?_; simp [zcells, chunks])
    | (refine V_ret ?_; simp only [RK_seq, RK_seq_ret, RK_seq_exit, RK_blk, RK_blk_ret, RK_blk_exit, RK_loop, RK_loop_ret, RK_loop_exit, RK_done])
    | fail)
  (refine EndW.frzN 1 ?_; simp [frzN, frz1, frz_env, frz_obs, St.frz, St.frzS, frzS, fv, fzVec, fzMap, fzBox, frzObS, frz_entD, frz_rowsD, del, frz, frzOb])
  refine EndW.norm (EndW.here ?_)
  (refine EndOK.val (.inr rfl) ?_; simp [resD, oneOrTup, pureD, Try.results30, frz_obs, frz_env, norm_obs, norm_env, frz, frzOb, frzS, fv, fzVec, fzMap, fzBox, frzObS, frz_entD, frz_rowsD, normD, normU, norm1, normOb])
  rw [a.row_eq, b.row_eq]
  simp [Exp.op, Exp.n, Exp.unit, Exp.s, Exp.args]
theorem is_fun (u e w : Int) : Fun Try.prog 32 [.u (.int .i64 u), .u (.int .i64 e), .u (.int .i64 w)] (· = .u (.bool (decide (u = w) && decide (e = 0)))) := by
  (refine Fun.of_body Try.func32 rfl (by simp) fun Γ hn => ?_); simp only [entry, List.zipIdx_cons, List.zipIdx_nil, List.map_cons, List.map_nil, Nat.zero_add, Try.ntmps32]
  repeat' (first
    | (refine H_cons ?_; simp)
    | (refine H_nil ?_; simp)
    | (refine V_sseq ?_; simp)
    | (refine V_ret ?_; simp only [RK_seq, RK_seq_ret, RK_seq_exit, RK_blk, RK_blk_ret, RK_blk_exit, RK_loop, RK_loop_ret, RK_loop_exit, RK_done])
    | (refine ⟨fun hc => ?_, fun hc => ?_⟩ <;> (try (exfalso; omega)))
    | fail)
  all_goals
    (refine EndOK.val (.inr rfl) ?_; simp [resD, oneOrTup, pureD, Try.results32])
  all_goals (simp_all; done)
mutual
def usesS (s : List UInt8) : Exp → Bool
  | .mk op _ _ t args => (decide (op = 1) && decide (t = s)) || usesL s args
def usesL (s : List UInt8) : List Exp → Bool
  | [] => false
  | e :: r => usesS s e || usesL s r
end
theorem usesS_eq (s) (e : Exp) : usesS s e = ((decide (e.op = 1) && decide (e.s = s)) || usesL s e.args) := by cases e with | mk op n u t args => rw [usesS]; rfl
theorem usesL_any (s) : ∀ l : List Exp, usesL s l = l.any (usesS s)
  | [] => by rw [usesL]; rfl
  | e :: r => by rw [usesL, List.any_cons, usesL_any s r]
theorem uses_fun (s : List UInt8) : ∀ (m : Nat) (e : Exp), SizeOf.sizeOf e ≤ m → Fun Try.prog 28 [eagg e, .u (.str s)] (· = .u (.bool (usesS s e)))
  | 0, e, hm => by cases e; simp at hm
  | m + 1, e, hm => by
    have hch : ∀ x ∈ e.args, SizeOf.sizeOf x ≤ m := fun x hx => by
      cases e with
      | mk op n u s args =>
        have h1 := List.sizeOf_lt_of_mem (show x ∈ args from hx)
        simp at hm
        omega
    rw [usesS_eq, usesL_any]
    generalize hA : e.args.any (usesS s) = A
    by_cases hop : e.op = 1 ∧ e.s = s
    · obtain ⟨hop1, hop2⟩ := hop
      (refine Fun.of_body Try.func28 rfl (by simp) fun Γ hn => ?_); simp only [entry, List.zipIdx_cons, List.zipIdx_nil, List.map_cons, List.map_nil, Nat.zero_add, Try.ntmps28]
      simp only [eagg]
      repeat' (first
    | (refine H_cons ?_; simp [hop1, hop2])
    | (refine H_nil ?_; simp [hop1, hop2])
    | (refine V_sseq ?_; simp [hop1, hop2])
    | (refine V_scond ?_; simp [hop1, hop2])
    | (refine V_ret ?_; simp only [RK_seq, RK_seq_ret, RK_seq_exit, RK_blk, RK_blk_ret, RK_blk_exit, RK_loop, RK_loop_ret, RK_loop_exit, RK_done])
    | fail)
      (refine EndOK.val (.inr rfl) ?_; simp [resD, oneOrTup, pureD, Try.results28])
      all_goals simp [hop1, hop2]
    · have hno : (decide (e.op = 1) && decide (e.s = s)) = false := by simpa using hop
      rw [hno, Bool.false_or]
      by_cases hop1 : e.op = 1
      all_goals
        try have hop2 : ¬ e.s = s := fun h => hop ⟨hop1, h⟩
        (refine Fun.of_body Try.func28 rfl (by simp) fun Γ hn => ?_); simp only [entry, List.zipIdx_cons, List.zipIdx_nil, List.map_cons, List.map_nil, Nat.zero_add, Try.ntmps28]
        simp only [eagg]
        refine V_lenA (x := 0) (j := 4) rfl rfl fun hl => ?_
        simp only [List.length_map] at hl
        repeat' (first
    | (refine H_cons ?_; simp [*])
    | (refine H_nil ?_; simp [*])
    | (refine V_sseq ?_; simp [*])
    | (refine V_scond ?_; simp [*])
    | (refine V_sblock ?_; simp [*])
    | (refine V_skip ?_; simp only [RK_seq, RK_seq_ret, RK_seq_exit, RK_blk, RK_blk_ret, RK_blk_exit, RK_loop, RK_loop_ret, RK_loop_exit, RK_done])
    | fail)
        refine V_loopF (α := { i : Nat // i ≤ e.args.length ∧ ∀ x ∈ e.args.take i, usesS s x = false }) [1, 2] (fun i => [(5, .u (.int .i64 i.1))]) (fun i => e.args.length - i.1) ⟨0, by omega, by simp⟩ ?_ ?_
        · exact (Wk.cut rfl (by simp [hn]) (by simp [wkO, St.lp, getK_cons, getK, Ob.under, D.under, under_rowsD, under_entD]) (by simp [wkU, St.lp, keepE, getK_cons, getK, D.under]) (by simp [wkE, St.lp, keepE, getK_cons, getK] <;> (try (intros; simp_all; done)) <;> (try (intros; omega)) <;> (try grind)))
        rintro ⟨i, hi, hb⟩
        simp [St.lp, St.only, keepE, getK_cons, getK]
        rcases hx : e.args[i]? with _ | x
        · have hge : e.args.length ≤ i := by simpa using hx
          obtain rfl : i = e.args.length := by omega
          rw [List.take_length] at hb
          have hAf : A = false := by rw [← hA, List.any_eq_false]; intro x hx; simp [hb x hx]
          repeat' (first
    | (refine H_cons ?_; simp [hx])
    | (refine H_nil ?_; simp [hx])
    | (refine V_sseq ?_; simp [hx])
    | (refine V_scond ?_; simp [hx])
    | (refine V_ret ?_; simp only [RK_seq, RK_seq_ret, RK_seq_exit, RK_blk, RK_blk_ret, RK_blk_exit, RK_loop, RK_loop_ret, RK_loop_exit, RK_done])
    | (refine V_exit ?_; simp [RK_seq, RK_seq_ret, RK_seq_exit, RK_blk, RK_blk_ret, RK_blk_exit, RK_loop, RK_loop_ret, RK_loop_exit, RK_done])
    | fail)
          (refine EndOK.val (.inr rfl) ?_; simp [resD, oneOrTup, pureD, Try.results28])
          exact hAf
        · have hlt : i < e.args.length := (List.getElem?_eq_some_iff.1 hx).1
          have h5 := uses_fun s m x (hch x (List.mem_of_getElem? hx))
          simp only [eagg] at h5
          cases hu : usesS s x
          · rw [hu] at h5
            repeat' (first
    | (refine H_cons ?_; simp [hx, x.row_eq])
    | (refine H_nil ?_; simp [hx, x.row_eq])
    | (refine ⟨by omega, ?_⟩)
    | (refine V_sseq ?_; simp [hx, x.row_eq])
    | (refine V_scond ?_; simp [hx, x.row_eq])
    | (refine V_sregion ?_; simp [hx, x.row_eq])
    | (refine V_skip ?_; simp only [RK_seq, RK_seq_ret, RK_seq_exit, RK_blk, RK_blk_ret, RK_blk_exit, RK_loop, RK_loop_ret, RK_loop_exit, RK_done])
    | (refine ⟨?_, by omega⟩)
    | (intro hc <;> (try (exfalso; omega)))
    | (refine CallP.fun_ (h5) (by first | rfl | fail) (by first | assumption | (simp; done) | fail) (by first | (simp [hx, x.row_eq]; done) | (simp [hx, x.row_eq]; rfl) | fail) (by first | (simp; done) | fail) (fun d hd => ?_); subst hd; (try simp [hx, x.row_eq]))
    | fail)
            refine LoopW.next ⟨i + 1, by omega, take_succ_all hx hb hu⟩ (by simp; omega) ?_
            exact (Wk.cut rfl (by simp [hn]) (by simp [wkO, St.lp, getK_cons, getK, Ob.under, D.under, under_rowsD, under_entD]) (by simp [wkU, St.lp, keepE, getK_cons, getK, D.under]) (by simp [wkE, St.lp, keepE, getK_cons, getK] <;> (try (intros; simp_all; done)) <;> (try (intros; omega)) <;> (try grind)))
          · rw [hu] at h5
            have hAt : A = true := by rw [← hA, List.any_eq_true]; exact ⟨x, List.mem_of_getElem? hx, hu⟩
            repeat' (first
    | (refine H_cons ?_; simp [hx, x.row_eq])
    | (refine H_nil ?_; simp [hx, x.row_eq])
    | (refine V_sseq ?_; simp [hx, x.row_eq])
    | (refine V_scond ?_; simp [hx, x.row_eq])
    | (refine V_ret ?_; simp only [RK_seq, RK_seq_ret, RK_seq_exit, RK_blk, RK_blk_ret, RK_blk_exit, RK_loop, RK_loop_ret, RK_loop_exit, RK_done])
    | (refine V_skip ?_; simp only [RK_seq, RK_seq_ret, RK_seq_exit, RK_blk, RK_blk_ret, RK_blk_exit, RK_loop, RK_loop_ret, RK_loop_exit, RK_done])
    | (refine ⟨?_, by omega⟩)
    | (intro hc <;> (try (exfalso; omega)))
    | (refine CallP.fun_ (h5) (by first | rfl | fail) (by first | assumption | (simp; done) | fail) (by first | (simp [hx, x.row_eq]; done) | (simp [hx, x.row_eq]; rfl) | fail) (by first | (simp; done) | fail) (fun d hd => ?_); subst hd; (try simp [hx, x.row_eq]))
    | fail)
            (refine EndOK.val (.inr rfl) ?_; simp [resD, oneOrTup, pureD, Try.results28])
            exact hAt
end Go.Proofs.Ytehlmagdlkcifaa
