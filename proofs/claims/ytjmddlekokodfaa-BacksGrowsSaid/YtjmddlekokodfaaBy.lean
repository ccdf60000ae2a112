/- Layer 26: the law on debts that grow: the walk. -/
import Derived.Test.YtjmddlekokodfaaBu
set_option linter.all false
set_option maxRecDepth 100000
set_option maxHeartbeats 8000000
set_option linter.all false
namespace Go.Proofs.Ytjmddlekokodfaa
open Go Go.VL
theorem int_of_nat2 (a : Int) (h : 0 ≤ a) : ∃ n : Nat, a = n := ⟨a.toNat, by omega⟩
theorem lst_sum_ge {n : Nat} {f : Nat → Int} (h : ∀ i, i < n → 0 ≤ f i) {k : Nat} (hk : k < n) : f k ≤ (lst n f).sum := by
  have h1 := lst_sum_mono (n := n) (f := fun i => if i = k then f k else 0) (g := f) fun i hi => by
    by_cases e : i = k
    · simp [e]
    · simp [e, h i hi]
  rwa [lst_sum_one n k (f k) hk] at h1
theorem sum_cap {n : Nat} {M : Nat → Int} (hM : OkM n M) (B : List (List Int)) (d i : Nat) (hi : i ≤ n) : 0 ≤ (lst i (capOf n B d M)).sum ∧ (lst i (capOf n B d M)).sum ≤ i * 1099511627776 := by
  have hc : ∀ j, j < i → 0 ≤ capOf n B d M j ∧ capOf n B d M j ≤ 1099511627776 := fun j hj => by
    have h1 := hM.lo j (by omega)
    have h2 := hM.hi j (by omega)
    simp only [maxC] at h2
    unfold capOf
    split <;> omega
  have e1 := sum_nonneg (vs := lst i (capOf n B d M)) (fun v hv => by obtain ⟨j, hj, rfl⟩ := lst_mem hv; exact (hc j hj).1)
  have e2 := sum_le (vs := lst i (capOf n B d M)) (b := 1099511627776) (fun v hv => by obtain ⟨j, hj, rfl⟩ := lst_mem hv; exact (hc j hj).2)
  rw [lst_len] at e2
  exact ⟨e1, e2⟩
/-- What the law says of what is left and paid. -/
theorem grows_plain {n : Nat} {B : List (List Int)} {M : Nat → Int} (hM : OkM n M) {d k : Nat} (hd : d < n) (hk : k < n) {a b : Int} (ha : 0 ≤ a) (hab : a ≤ b) (hb : b ≤ maxC) :
    (∀ i, paidAt n B (one d a) M i d ≤ paidAt n B (one d b) M i d) ∧ leftAt n B (one d a) M d ≤ leftAt n B (one d b) M d ∧
    leftAt n B (one d a) (fun i => if i = k then maxC else M i) d ≤ leftAt n B (one d a) M d ∧ leftAt n B (one d a) M d = max 0 (a - (lst n (capOf n B d M)).sum) ∧
    (¬ lvOf n B d k < 0 → leftAt n B (one d a) (fun i => if i = k then maxC else M i) d = 0) := by
  have hL : OkM n fun i => if i = k then maxC else M i := ⟨fun i hi => by
    have := hM.lo i hi
    simp only [maxC]
    split <;> omega, fun i hi => by
    have := hM.hi i hi
    split <;> omega⟩
  have s1 := solo_one (B := B) hM hd ha
  have s2 := solo_one (B := B) (v := b) hM hd (by omega)
  have s3 := solo_one (B := B) hL hd ha
  have c1 := left_cap (B := B) (d := d) hM ha
  have c2 := left_cap (B := B) (d := d) (a := b) hM (by omega)
  have c3 := left_cap (B := B) (d := d) hL ha
  have m1' : ∀ i, i < n → M i ≤ (if i = k then maxC else M i) := fun i hi => by
    have := hM.hi i hi
    split <;> omega
  have m1 : (lst n (capOf n B d M)).sum ≤ (lst n (capOf n B d fun i => if i = k then maxC else M i)).sum := lst_sum_mono fun i hi => by
    have := m1' i hi
    unfold capOf
    split
    · omega
    · exact this
  refine ⟨fun i => ?_, ?_, ?_, ?_, fun hw => ?_⟩
  · rw [s1.1, s2.1]; exact goL_mono (levelsOf_ok n B d) hM ha hab i
  · rw [s1.2, s2.2, c1, c2]; omega
  · rw [s1.2, s3.2, c1, c3]; omega
  · rw [s1.2, c1]
  · rw [s3.2, c3]
    have m2 := lst_sum_ge (n := n) (f := capOf n B d fun i => if i = k then maxC else M i) (fun i hi => by
      have := hL.lo i hi
      unfold capOf
      split <;> omega) hk
    have m3 : capOf n B d (fun i => if i = k then maxC else M i) k = maxC := by unfold capOf; rw [if_neg hw]; simp
    omega
attribute [local simp] hcons hstep evPure opd uOf putOK St.put St.at getK binD binI binS binB nilD aggD eqUs cmpK lookD lookR rangeD nextD entryD keyD valU keyU lookK mkV entD_nil lookK_entD updK_entD1 updK_entD2 updK_entD3 allUE allUE_entD makeMapD mapUpdD mapEff updK valM Key.kk shiftI arith unD convD pickD loadD cellsAt fieldAddrD fieldD indexAddrD indexD sliceD cutD lenD minmaxD nilCheckD buildD fillD cellsD isOne ones setAll mkAgg allU allocD boxD storeD St.add buildSliceD appendD rowsOf makeD setOb getK_setOb getK_del getK_cons stripL strip guardTmp entry chunks zcells valD argsV argsW argW argU1 argU0 argsU0 argsU1 calleeOf scalarD scalarU delAll effD St.effS RK_seq RK_seq_ret RK_seq_exit RK_blk RK_blk_ret RK_blk_exit RK_loop RK_loop_ret RK_loop_exit RK_done vs_seq vs_block vs_skip vs_label vs_exit vs_ret vs_cond vs_region vs_loop vs_draw vs_range vs_scope applyW mkD rdIds lentIds callOf calleeOf freeOp D.ids Op.operands Call.operands isEffOp IntKind.bits allU2 allU2_append List.take_of_length_le List.range_succ
attribute [local irreducible] V G H HD HD2 RunK Eff CallP CallV EndOK Fun Ret FinOK LoopI LoopW EndW
theorem grows_fun (B : List (List Int)) (means : List Int) (debt more a b : Int) (ha0 : 0 ≤ a) (ha1 : a ≤ 255) (hb0 : 0 ≤ b) (hb1 : b ≤ 255) : Fun Try.prog 7 [.u (lists B), .u (ints means), .u (.int .i64 debt), .u (.int .i64 more), .u (.int .u8 a), .u (.int .u8 b)] (· = .u (.bool true)) := by
  have h0 := small_fun
  by_cases g1 : means.length < 1
  · have g1' : (means.length : Int) < 1 := by omega
    (refine Fun.of_body Try.func7 rfl (by simp) fun Γ hn => ?_); simp only [entry, List.zipIdx_cons, List.zipIdx_nil, List.map_cons, List.map_nil, Nat.zero_add, Try.ntmps7]
    repeat' (first
    | (refine H_cons ?_; simp [g1, g1'])
    | (refine HD2_val rfl ?_; simp [g1, g1'])
    | (refine HD_cons ?_; simp [g1, g1'])
    | (refine HD2_chg rfl ?_; simp [g1, g1'])
    | (refine H_nil ?_; simp [g1, g1'])
    | (refine ⟨by omega, ?_⟩)
    | (refine V_sseq ?_; simp [g1, g1'])
    | (refine V_scond ?_; simp [g1, g1'])
    | (refine HD2_nil (hC _ (by kernel_rfl)) (hk _ ?_); clear hC hk C k; simp only [RK_seq, RK_seq_ret, RK_seq_exit, RK_blk, RK_blk_ret, RK_blk_exit, RK_loop, RK_loop_ret, RK_loop_exit, RK_done])
    | (refine HD_nil ?_)
    | (refine hk _ ?_; clear hk k; simp only [RK_seq, RK_seq_ret, RK_seq_exit, RK_blk, RK_blk_ret, RK_blk_exit, RK_loop, RK_loop_ret, RK_loop_exit, RK_done])
    | (refine V_drawV rfl (by kernel_rfl) (by kernel_rfl) fun k hk => ?_; simp [g1, g1'])
    | (refine V_drawN rfl (by kernel_rfl) (by kernel_rfl) (by simp [hn]) fun C k hC hk => ?_; simp [g1, g1'])
    | (refine HD3_val rfl ?_; simp [g1, g1'])
    | (refine HD3_put ?_; simp [g1, g1'])
    | (refine HD3_chg rfl rfl ?_; simp [g1, g1'])
    | (refine HD3_nil (hC _ _ (by kernel_rfl) (by kernel_rfl)) (hk _ ?_); clear hC hk C k; simp only [RK_seq, RK_seq_ret, RK_seq_exit, RK_blk, RK_blk_ret, RK_blk_exit, RK_loop, RK_loop_ret, RK_loop_exit, RK_done]; simp [St.ins, insL, putE, getK_setOb, getK_cons])
    | (refine V_drawE rfl (by kernel_rfl) (by kernel_rfl) (by simp [hn]) fun C k hC hk => ?_; simp [g1, g1'])
    | (refine HD_guardU rfl (by simp [g1, g1']) ?_; simp [g1, g1'])
    | (refine HD_guard rfl (by simp [g1, g1']) (fun hc => ?_) (fun hc => ?_) <;> (try simp [g1, g1'] at hc) <;> (try (exfalso; omega)) <;> (try simp [g1, g1']))
    | (refine HD2_guardU rfl (by simp [g1, g1']) ?_; simp [g1, g1'])
    | (refine HD2_guard rfl (by simp [g1, g1']) (fun hc => ?_) (fun hc => ?_) <;> (try simp [g1, g1'] at hc) <;> (try (exfalso; omega)) <;> (try simp [g1, g1']))
    | (refine V_sblock ?_; simp [g1, g1'])
    | (refine V_sregion ?_; simp [g1, g1'])
    | (refine V_ret ?_; simp only [RK_seq, RK_seq_ret, RK_seq_exit, RK_blk, RK_blk_ret, RK_blk_exit, RK_loop, RK_loop_ret, RK_loop_exit, RK_done])
    | (refine V_skip ?_; simp only [RK_seq, RK_seq_ret, RK_seq_exit, RK_blk, RK_blk_ret, RK_blk_exit, RK_loop, RK_loop_ret, RK_loop_exit, RK_done])
    | (refine V_exit ?_; simp [RK_seq, RK_seq_ret, RK_seq_exit, RK_blk, RK_blk_ret, RK_blk_exit, RK_loop, RK_loop_ret, RK_loop_exit, RK_done])
    | (refine ⟨?_, by omega⟩)
    | (refine ⟨fun hc => ?_, fun hc => ?_⟩ <;> (try (exfalso; omega)))
    | (intro hc <;> (try (exfalso; omega)))
    | (refine CallV.fun_ (h0) (by first | rfl | fail) (by first | assumption | (simp; done) | fail) (by first | (simp [g1, g1']; done) | (simp [g1, g1']; rfl) | fail) (by first | (simp; done) | fail) ?_ <;> (try simp [g1, g1']))
    | (refine CallP.fun_ (h0) (by first | rfl | fail) (by first | assumption | (simp; done) | fail) (by first | (simp [g1, g1']; done) | (simp [g1, g1']; rfl) | fail) (by first | (simp; done) | fail) (fun d hd => ?_); subst hd; (try simp [g1, g1'])))
    all_goals
      (refine EndOK.val (.inr rfl) ?_; simp [resD, oneOrTup, pureD, Try.results7])
  by_cases g2 : 12 < means.length
  · have g1' : ¬ (means.length : Int) < 1 := by omega
    have g2' : 12 < (means.length : Int) := by omega
    (refine Fun.of_body Try.func7 rfl (by simp) fun Γ hn => ?_); simp only [entry, List.zipIdx_cons, List.zipIdx_nil, List.map_cons, List.map_nil, Nat.zero_add, Try.ntmps7]
    repeat' (first
    | (refine H_cons ?_; simp [g1, g1', g2, g2'])
    | (refine HD2_val rfl ?_; simp [g1, g1', g2, g2'])
    | (refine HD_cons ?_; simp [g1, g1', g2, g2'])
    | (refine HD2_chg rfl ?_; simp [g1, g1', g2, g2'])
    | (refine H_nil ?_; simp [g1, g1', g2, g2'])
    | (refine ⟨by omega, ?_⟩)
    | (refine V_sseq ?_; simp [g1, g1', g2, g2'])
    | (refine V_scond ?_; simp [g1, g1', g2, g2'])
    | (refine HD2_nil (hC _ (by kernel_rfl)) (hk _ ?_); clear hC hk C k; simp only [RK_seq, RK_seq_ret, RK_seq_exit, RK_blk, RK_blk_ret, RK_blk_exit, RK_loop, RK_loop_ret, RK_loop_exit, RK_done])
    | (refine HD_nil ?_)
    | (refine hk _ ?_; clear hk k; simp only [RK_seq, RK_seq_ret, RK_seq_exit, RK_blk, RK_blk_ret, RK_blk_exit, RK_loop, RK_loop_ret, RK_loop_exit, RK_done])
    | (refine V_drawV rfl (by kernel_rfl) (by kernel_rfl) fun k hk => ?_; simp [g1, g1', g2, g2'])
    | (refine V_drawN rfl (by kernel_rfl) (by kernel_rfl) (by simp [hn]) fun C k hC hk => ?_; simp [g1, g1', g2, g2'])
    | (refine HD3_val rfl ?_; simp [g1, g1', g2, g2'])
    | (refine HD3_put ?_; simp [g1, g1', g2, g2'])
    | (refine HD3_chg rfl rfl ?_; simp [g1, g1', g2, g2'])
    | (refine HD3_nil (hC _ _ (by kernel_rfl) (by kernel_rfl)) (hk _ ?_); clear hC hk C k; simp only [RK_seq, RK_seq_ret, RK_seq_exit, RK_blk, RK_blk_ret, RK_blk_exit, RK_loop, RK_loop_ret, RK_loop_exit, RK_done]; simp [St.ins, insL, putE, getK_setOb, getK_cons])
    | (refine V_drawE rfl (by kernel_rfl) (by kernel_rfl) (by simp [hn]) fun C k hC hk => ?_; simp [g1, g1', g2, g2'])
    | (refine HD_guardU rfl (by simp [g1, g1', g2, g2']) ?_; simp [g1, g1', g2, g2'])
    | (refine HD_guard rfl (by simp [g1, g1', g2, g2']) (fun hc => ?_) (fun hc => ?_) <;> (try simp [g1, g1', g2, g2'] at hc) <;> (try (exfalso; omega)) <;> (try simp [g1, g1', g2, g2']))
    | (refine HD2_guardU rfl (by simp [g1, g1', g2, g2']) ?_; simp [g1, g1', g2, g2'])
    | (refine HD2_guard rfl (by simp [g1, g1', g2, g2']) (fun hc => ?_) (fun hc => ?_) <;> (try simp [g1, g1', g2, g2'] at hc) <;> (try (exfalso; omega)) <;> (try simp [g1, g1', g2, g2']))
    | (refine V_sblock ?_; simp [g1, g1', g2, g2'])
    | (refine V_sregion ?_; simp [g1, g1', g2, g2'])
    | (refine V_ret ?_; simp only [RK_seq, RK_seq_ret, RK_seq_exit, RK_blk, RK_blk_ret, RK_blk_exit, RK_loop, RK_loop_ret, RK_loop_exit, RK_done])
    | (refine V_skip ?_; simp only [RK_seq, RK_seq_ret, RK_seq_exit, RK_blk, RK_blk_ret, RK_blk_exit, RK_loop, RK_loop_ret, RK_loop_exit, RK_done])
    | (refine V_exit ?_; simp [RK_seq, RK_seq_ret, RK_seq_exit, RK_blk, RK_blk_ret, RK_blk_exit, RK_loop, RK_loop_ret, RK_loop_exit, RK_done])
    | (refine ⟨?_, by omega⟩)
    | (refine ⟨fun hc => ?_, fun hc => ?_⟩ <;> (try (exfalso; omega)))
    | (intro hc <;> (try (exfalso; omega)))
    | (refine CallV.fun_ (h0) (by first | rfl | fail) (by first | assumption | (simp; done) | fail) (by first | (simp [g1, g1', g2, g2']; done) | (simp [g1, g1', g2, g2']; rfl) | fail) (by first | (simp; done) | fail) ?_ <;> (try simp [g1, g1', g2, g2']))
    | (refine CallP.fun_ (h0) (by first | rfl | fail) (by first | assumption | (simp; done) | fail) (by first | (simp [g1, g1', g2, g2']; done) | (simp [g1, g1', g2, g2']; rfl) | fail) (by first | (simp; done) | fail) (fun d hd => ?_); subst hd; (try simp [g1, g1', g2, g2'])))
    all_goals
      (refine EndOK.val (.inr rfl) ?_; simp [resD, oneOrTup, pureD, Try.results7])
  have g1' : ¬ (means.length : Int) < 1 := by omega
  have g2' : ¬ 12 < (means.length : Int) := by omega
  by_cases g3 : debt < 0
  · (refine Fun.of_body Try.func7 rfl (by simp) fun Γ hn => ?_); simp only [entry, List.zipIdx_cons, List.zipIdx_nil, List.map_cons, List.map_nil, Nat.zero_add, Try.ntmps7]
    repeat' (first
    | (refine H_cons ?_; simp [g1, g1', g2, g2', g3])
    | (refine HD2_val rfl ?_; simp [g1, g1', g2, g2', g3])
    | (refine HD_cons ?_; simp [g1, g1', g2, g2', g3])
    | (refine HD2_chg rfl ?_; simp [g1, g1', g2, g2', g3])
    | (refine H_nil ?_; simp [g1, g1', g2, g2', g3])
    | (refine ⟨by omega, ?_⟩)
    | (refine V_sseq ?_; simp [g1, g1', g2, g2', g3])
    | (refine V_scond ?_; simp [g1, g1', g2, g2', g3])
    | (refine HD2_nil (hC _ (by kernel_rfl)) (hk _ ?_); clear hC hk C k; simp only [RK_seq, RK_seq_ret, RK_seq_exit, RK_blk, RK_blk_ret, RK_blk_exit, RK_loop, RK_loop_ret, RK_loop_exit, RK_done])
    | (refine HD_nil ?_)
    | (refine hk _ ?_; clear hk k; simp only [RK_seq, RK_seq_ret, RK_seq_exit, RK_blk, RK_blk_ret, RK_blk_exit, RK_loop, RK_loop_ret, RK_loop_exit, RK_done])
    | (refine V_drawV rfl (by kernel_rfl) (by kernel_rfl) fun k hk => ?_; simp [g1, g1', g2, g2', g3])
    | (refine V_drawN rfl (by kernel_rfl) (by kernel_rfl) (by simp [hn]) fun C k hC hk => ?_; simp [g1, g1', g2, g2', g3])
    | (refine HD3_val rfl ?_; simp [g1, g1', g2, g2', g3])
    | (refine HD3_put ?_; simp [g1, g1', g2, g2', g3])
    | (refine HD3_chg rfl rfl ?_; simp [g1, g1', g2, g2', g3])
    | (refine HD3_nil (hC _ _ (by kernel_rfl) (by kernel_rfl)) (hk _ ?_); clear hC hk C k; simp only [RK_seq, RK_seq_ret, RK_seq_exit, RK_blk, RK_blk_ret, RK_blk_exit, RK_loop, RK_loop_ret, RK_loop_exit, RK_done]; simp [St.ins, insL, putE, getK_setOb, getK_cons])
    | (refine V_drawE rfl (by kernel_rfl) (by kernel_rfl) (by simp [hn]) fun C k hC hk => ?_; simp [g1, g1', g2, g2', g3])
    | (refine HD_guardU rfl (by simp [g1, g1', g2, g2', g3]) ?_; simp [g1, g1', g2, g2', g3])
    | (refine HD_guard rfl (by simp [g1, g1', g2, g2', g3]) (fun hc => ?_) (fun hc => ?_) <;> (try simp [g1, g1', g2, g2', g3] at hc) <;> (try (exfalso; omega)) <;> (try simp [g1, g1', g2, g2', g3]))
    | (refine HD2_guardU rfl (by simp [g1, g1', g2, g2', g3]) ?_; simp [g1, g1', g2, g2', g3])
    | (refine HD2_guard rfl (by simp [g1, g1', g2, g2', g3]) (fun hc => ?_) (fun hc => ?_) <;> (try simp [g1, g1', g2, g2', g3] at hc) <;> (try (exfalso; omega)) <;> (try simp [g1, g1', g2, g2', g3]))
    | (refine V_sblock ?_; simp [g1, g1', g2, g2', g3])
    | (refine V_sregion ?_; simp [g1, g1', g2, g2', g3])
    | (refine V_ret ?_; simp only [RK_seq, RK_seq_ret, RK_seq_exit, RK_blk, RK_blk_ret, RK_blk_exit, RK_loop, RK_loop_ret, RK_loop_exit, RK_done])
    | (refine V_skip ?_; simp only [RK_seq, RK_seq_ret, RK_seq_exit, RK_blk, RK_blk_ret, RK_blk_exit, RK_loop, RK_loop_ret, RK_loop_exit, RK_done])
    | (refine V_exit ?_; simp [RK_seq, RK_seq_ret, RK_seq_exit, RK_blk, RK_blk_ret, RK_blk_exit, RK_loop, RK_loop_ret, RK_loop_exit, RK_done])
    | (refine ⟨?_, by omega⟩)
    | (refine ⟨fun hc => ?_, fun hc => ?_⟩ <;> (try (exfalso; omega)))
    | (intro hc <;> (try (exfalso; omega)))
    | (refine CallV.fun_ (h0) (by first | rfl | fail) (by first | assumption | (simp; done) | fail) (by first | (simp [g1, g1', g2, g2', g3]; done) | (simp [g1, g1', g2, g2', g3]; rfl) | fail) (by first | (simp; done) | fail) ?_ <;> (try simp [g1, g1', g2, g2', g3]))
    | (refine CallP.fun_ (h0) (by first | rfl | fail) (by first | assumption | (simp; done) | fail) (by first | (simp [g1, g1', g2, g2', g3]; done) | (simp [g1, g1', g2, g2', g3]; rfl) | fail) (by first | (simp; done) | fail) (fun d hd => ?_); subst hd; (try simp [g1, g1', g2, g2', g3])))
    all_goals
      (refine EndOK.val (.inr rfl) ?_; simp [resD, oneOrTup, pureD, Try.results7])
  by_cases g4 : 1099511627776 < debt
  · (refine Fun.of_body Try.func7 rfl (by simp) fun Γ hn => ?_); simp only [entry, List.zipIdx_cons, List.zipIdx_nil, List.map_cons, List.map_nil, Nat.zero_add, Try.ntmps7]
    repeat' (first
    | (refine H_cons ?_; simp [g1, g1', g2, g2', g3, g4])
    | (refine HD2_val rfl ?_; simp [g1, g1', g2, g2', g3, g4])
    | (refine HD_cons ?_; simp [g1, g1', g2, g2', g3, g4])
    | (refine HD2_chg rfl ?_; simp [g1, g1', g2, g2', g3, g4])
    | (refine H_nil ?_; simp [g1, g1', g2, g2', g3, g4])
    | (refine ⟨by omega, ?_⟩)
    | (refine V_sseq ?_; simp [g1, g1', g2, g2', g3, g4])
    | (refine V_scond ?_; simp [g1, g1', g2, g2', g3, g4])
    | (refine HD2_nil (hC _ (by kernel_rfl)) (hk _ ?_); clear hC hk C k; simp only [RK_seq, RK_seq_ret, RK_seq_exit, RK_blk, RK_blk_ret, RK_blk_exit, RK_loop, RK_loop_ret, RK_loop_exit, RK_done])
    | (refine HD_nil ?_)
    | (refine hk _ ?_; clear hk k; simp only [RK_seq, RK_seq_ret, RK_seq_exit, RK_blk, RK_blk_ret, RK_blk_exit, RK_loop, RK_loop_ret, RK_loop_exit, RK_done])
    | (refine V_drawV rfl (by kernel_rfl) (by kernel_rfl) fun k hk => ?_; simp [g1, g1', g2, g2', g3, g4])
    | (refine V_drawN rfl (by kernel_rfl) (by kernel_rfl) (by simp [hn]) fun C k hC hk => ?_; simp [g1, g1', g2, g2', g3, g4])
    | (refine HD3_val rfl ?_; simp [g1, g1', g2, g2', g3, g4])
    | (refine HD3_put ?_; simp [g1, g1', g2, g2', g3, g4])
    | (refine HD3_chg rfl rfl ?_; simp [g1, g1', g2, g2', g3, g4])
    | (refine HD3_nil (hC _ _ (by kernel_rfl) (by kernel_rfl)) (hk _ ?_); clear hC hk C k; simp only [RK_seq, RK_seq_ret, RK_seq_exit, RK_blk, RK_blk_ret, RK_blk_exit, RK_loop, RK_loop_ret, RK_loop_exit, RK_done]; simp [St.ins, insL, putE, getK_setOb, getK_cons])
    | (refine V_drawE rfl (by kernel_rfl) (by kernel_rfl) (by simp [hn]) fun C k hC hk => ?_; simp [g1, g1', g2, g2', g3, g4])
    | (refine HD_guardU rfl (by simp [g1, g1', g2, g2', g3, g4]) ?_; simp [g1, g1', g2, g2', g3, g4])
    | (refine HD_guard rfl (by simp [g1, g1', g2, g2', g3, g4]) (fun hc => ?_) (fun hc => ?_) <;> (try simp [g1, g1', g2, g2', g3, g4] at hc) <;> (try (exfalso; omega)) <;> (try simp [g1, g1', g2, g2', g3, g4]))
    | (refine HD2_guardU rfl (by simp [g1, g1', g2, g2', g3, g4]) ?_; simp [g1, g1', g2, g2', g3, g4])
    | (refine HD2_guard rfl (by simp [g1, g1', g2, g2', g3, g4]) (fun hc => ?_) (fun hc => ?_) <;> (try simp [g1, g1', g2, g2', g3, g4] at hc) <;> (try (exfalso; omega)) <;> (try simp [g1, g1', g2, g2', g3, g4]))
    | (refine V_sblock ?_; simp [g1, g1', g2, g2', g3, g4])
    | (refine V_sregion ?_; simp [g1, g1', g2, g2', g3, g4])
    | (refine V_ret ?_; simp only [RK_seq, RK_seq_ret, RK_seq_exit, RK_blk, RK_blk_ret, RK_blk_exit, RK_loop, RK_loop_ret, RK_loop_exit, RK_done])
    | (refine V_skip ?_; simp only [RK_seq, RK_seq_ret, RK_seq_exit, RK_blk, RK_blk_ret, RK_blk_exit, RK_loop, RK_loop_ret, RK_loop_exit, RK_done])
    | (refine V_exit ?_; simp [RK_seq, RK_seq_ret, RK_seq_exit, RK_blk, RK_blk_ret, RK_blk_exit, RK_loop, RK_loop_ret, RK_loop_exit, RK_done])
    | (refine ⟨?_, by omega⟩)
    | (refine ⟨fun hc => ?_, fun hc => ?_⟩ <;> (try (exfalso; omega)))
    | (intro hc <;> (try (exfalso; omega)))
    | (refine CallV.fun_ (h0) (by first | rfl | fail) (by first | assumption | (simp; done) | fail) (by first | (simp [g1, g1', g2, g2', g3, g4]; done) | (simp [g1, g1', g2, g2', g3, g4]; rfl) | fail) (by first | (simp; done) | fail) ?_ <;> (try simp [g1, g1', g2, g2', g3, g4]))
    | (refine CallP.fun_ (h0) (by first | rfl | fail) (by first | assumption | (simp; done) | fail) (by first | (simp [g1, g1', g2, g2', g3, g4]; done) | (simp [g1, g1', g2, g2', g3, g4]; rfl) | fail) (by first | (simp; done) | fail) (fun d hd => ?_); subst hd; (try simp [g1, g1', g2, g2', g3, g4])))
    all_goals
      (refine EndOK.val (.inr rfl) ?_; simp [resD, oneOrTup, pureD, Try.results7])
  by_cases g5 : more < 0
  · (refine Fun.of_body Try.func7 rfl (by simp) fun Γ hn => ?_); simp only [entry, List.zipIdx_cons, List.zipIdx_nil, List.map_cons, List.map_nil, Nat.zero_add, Try.ntmps7]
    repeat' (first
    | (refine H_cons ?_; simp [g1, g1', g2, g2', g3, g4, g5])
    | (refine HD2_val rfl ?_; simp [g1, g1', g2, g2', g3, g4, g5])
    | (refine HD_cons ?_; simp [g1, g1', g2, g2', g3, g4, g5])
    | (refine HD2_chg rfl ?_; simp [g1, g1', g2, g2', g3, g4, g5])
    | (refine H_nil ?_; simp [g1, g1', g2, g2', g3, g4, g5])
    | (refine ⟨by omega, ?_⟩)
    | (refine V_sseq ?_; simp [g1, g1', g2, g2', g3, g4, g5])
    | (refine V_scond ?_; simp [g1, g1', g2, g2', g3, g4, g5])
    | (refine HD2_nil (hC _ (by kernel_rfl)) (hk _ ?_); clear hC hk C k; simp only [RK_seq, RK_seq_ret, RK_seq_exit, RK_blk, RK_blk_ret, RK_blk_exit, RK_loop, RK_loop_ret, RK_loop_exit, RK_done])
    | (refine HD_nil ?_)
    | (refine hk _ ?_; clear hk k; simp only [RK_seq, RK_seq_ret, RK_seq_exit, RK_blk, RK_blk_ret, RK_blk_exit, RK_loop, RK_loop_ret, RK_loop_exit, RK_done])
    | (refine V_drawV rfl (by kernel_rfl) (by kernel_rfl) fun k hk => ?_; simp [g1, g1', g2, g2', g3, g4, g5])
    | (refine V_drawN rfl (by kernel_rfl) (by kernel_rfl) (by simp [hn]) fun C k hC hk => ?_; simp [g1, g1', g2, g2', g3, g4, g5])
    | (refine HD3_val rfl ?_; simp [g1, g1', g2, g2', g3, g4, g5])
    | (refine HD3_put ?_; simp [g1, g1', g2, g2', g3, g4, g5])
    | (refine HD3_chg rfl rfl ?_; simp [g1, g1', g2, g2', g3, g4, g5])
    | (refine HD3_nil (hC _ _ (by kernel_rfl) (by kernel_rfl)) (hk _ ?_); clear hC hk C k; simp only [RK_seq, RK_seq_ret, RK_seq_exit, RK_blk, RK_blk_ret, RK_blk_exit, RK_loop, RK_loop_ret, RK_loop_exit, RK_done]; simp [St.ins, insL, putE, getK_setOb, getK_cons])
    | (refine V_drawE rfl (by kernel_rfl) (by kernel_rfl) (by simp [hn]) fun C k hC hk => ?_; simp [g1, g1', g2, g2', g3, g4, g5])
    | (refine HD_guardU rfl (by simp [g1, g1', g2, g2', g3, g4, g5]) ?_; simp [g1, g1', g2, g2', g3, g4, g5])
    | (refine HD_guard rfl (by simp [g1, g1', g2, g2', g3, g4, g5]) (fun hc => ?_) (fun hc => ?_) <;> (try simp [g1, g1', g2, g2', g3, g4, g5] at hc) <;> (try (exfalso; omega)) <;> (try simp [g1, g1', g2, g2', g3, g4, g5]))
    | (refine HD2_guardU rfl (by simp [g1, g1', g2, g2', g3, g4, g5]) ?_; simp [g1, g1', g2, g2', g3, g4, g5])
    | (refine HD2_guard rfl (by simp [g1, g1', g2, g2', g3, g4, g5]) (fun hc => ?_) (fun hc => ?_) <;> (try simp [g1, g1', g2, g2', g3, g4, g5] at hc) <;> (try (exfalso; omega)) <;> (try simp [g1, g1', g2, g2', g3, g4, g5]))
    | (refine V_sblock ?_; simp [g1, g1', g2, g2', g3, g4, g5])
    | (refine V_sregion ?_; simp [g1, g1', g2, g2', g3, g4, g5])
    | (refine V_ret ?_; simp only [RK_seq, RK_seq_ret, RK_seq_exit, RK_blk, RK_blk_ret, RK_blk_exit, RK_loop, RK_loop_ret, RK_loop_exit, RK_done])
    | (refine V_skip ?_; simp only [RK_seq, RK_seq_ret, RK_seq_exit, RK_blk, RK_blk_ret, RK_blk_exit, RK_loop, RK_loop_ret, RK_loop_exit, RK_done])
    | (refine V_exit ?_; simp [RK_seq, RK_seq_ret, RK_seq_exit, RK_blk, RK_blk_ret, RK_blk_exit, RK_loop, RK_loop_ret, RK_loop_exit, RK_done])
    | (refine ⟨?_, by omega⟩)
    | (refine ⟨fun hc => ?_, fun hc => ?_⟩ <;> (try (exfalso; omega)))
    | (intro hc <;> (try (exfalso; omega)))
    | (refine CallV.fun_ (h0) (by first | rfl | fail) (by first | assumption | (simp; done) | fail) (by first | (simp [g1, g1', g2, g2', g3, g4, g5]; done) | (simp [g1, g1', g2, g2', g3, g4, g5]; rfl) | fail) (by first | (simp; done) | fail) ?_ <;> (try simp [g1, g1', g2, g2', g3, g4, g5]))
    | (refine CallP.fun_ (h0) (by first | rfl | fail) (by first | assumption | (simp; done) | fail) (by first | (simp [g1, g1', g2, g2', g3, g4, g5]; done) | (simp [g1, g1', g2, g2', g3, g4, g5]; rfl) | fail) (by first | (simp; done) | fail) (fun d hd => ?_); subst hd; (try simp [g1, g1', g2, g2', g3, g4, g5])))
    all_goals
      (refine EndOK.val (.inr rfl) ?_; simp [resD, oneOrTup, pureD, Try.results7])
  by_cases g6 : 1099511627776 - debt < more
  · (refine Fun.of_body Try.func7 rfl (by simp) fun Γ hn => ?_); simp only [entry, List.zipIdx_cons, List.zipIdx_nil, List.map_cons, List.map_nil, Nat.zero_add, Try.ntmps7]
    repeat' (first
    | (refine H_cons ?_; simp [g1, g1', g2, g2', g3, g4, g5, g6])
    | (refine HD2_val rfl ?_; simp [g1, g1', g2, g2', g3, g4, g5, g6])
    | (refine HD_cons ?_; simp [g1, g1', g2, g2', g3, g4, g5, g6])
    | (refine HD2_chg rfl ?_; simp [g1, g1', g2, g2', g3, g4, g5, g6])
    | (refine H_nil ?_; simp [g1, g1', g2, g2', g3, g4, g5, g6])
    | (refine ⟨by omega, ?_⟩)
    | (refine V_sseq ?_; simp [g1, g1', g2, g2', g3, g4, g5, g6])
    | (refine V_scond ?_; simp [g1, g1', g2, g2', g3, g4, g5, g6])
    | (refine HD2_nil (hC _ (by kernel_rfl)) (hk _ ?_); clear hC hk C k; simp only [RK_seq, RK_seq_ret, RK_seq_exit, RK_blk, RK_blk_ret, RK_blk_exit, RK_loop, RK_loop_ret, RK_loop_exit, RK_done])
    | (refine HD_nil ?_)
    | (refine hk _ ?_; clear hk k; simp only [RK_seq, RK_seq_ret, RK_seq_exit, RK_blk, RK_blk_ret, RK_blk_exit, RK_loop, RK_loop_ret, RK_loop_exit, RK_done])
    | (refine V_drawV rfl (by kernel_rfl) (by kernel_rfl) fun k hk => ?_; simp [g1, g1', g2, g2', g3, g4, g5, g6])
    | (refine V_drawN rfl (by kernel_rfl) (by kernel_rfl) (by simp [hn]) fun C k hC hk => ?_; simp [g1, g1', g2, g2', g3, g4, g5, g6])
    | (refine HD3_val rfl ?_; simp [g1, g1', g2, g2', g3, g4, g5, g6])
    | (refine HD3_put ?_; simp [g1, g1', g2, g2', g3, g4, g5, g6])
    | (refine HD3_chg rfl rfl ?_; simp [g1, g1', g2, g2', g3, g4, g5, g6])
    | (refine HD3_nil (hC _ _ (by kernel_rfl) (by kernel_rfl)) (hk _ ?_); clear hC hk C k; simp only [RK_seq, RK_seq_ret, RK_seq_exit, RK_blk, RK_blk_ret, RK_blk_exit, RK_loop, RK_loop_ret, RK_loop_exit, RK_done]; simp [St.ins, insL, putE, getK_setOb, getK_cons])
    | (refine V_drawE rfl (by kernel_rfl) (by kernel_rfl) (by simp [hn]) fun C k hC hk => ?_; simp [g1, g1', g2, g2', g3, g4, g5, g6])
    | (refine HD_guardU rfl (by simp [g1, g1', g2, g2', g3, g4, g5, g6]) ?_; simp [g1, g1', g2, g2', g3, g4, g5, g6])
    | (refine HD_guard rfl (by simp [g1, g1', g2, g2', g3, g4, g5, g6]) (fun hc => ?_) (fun hc => ?_) <;> (try simp [g1, g1', g2, g2', g3, g4, g5, g6] at hc) <;> (try (exfalso; omega)) <;> (try simp [g1, g1', g2, g2', g3, g4, g5, g6]))
    | (refine HD2_guardU rfl (by simp [g1, g1', g2, g2', g3, g4, g5, g6]) ?_; simp [g1, g1', g2, g2', g3, g4, g5, g6])
    | (refine HD2_guard rfl (by simp [g1, g1', g2, g2', g3, g4, g5, g6]) (fun hc => ?_) (fun hc => ?_) <;> (try simp [g1, g1', g2, g2', g3, g4, g5, g6] at hc) <;> (try (exfalso; omega)) <;> (try simp [g1, g1', g2, g2', g3, g4, g5, g6]))
    | (refine V_sblock ?_; simp [g1, g1', g2, g2', g3, g4, g5, g6])
    | (refine V_sregion ?_; simp [g1, g1', g2, g2', g3, g4, g5, g6])
    | (refine V_ret ?_; simp only [RK_seq, RK_seq_ret, RK_seq_exit, RK_blk, RK_blk_ret, RK_blk_exit, RK_loop, RK_loop_ret, RK_loop_exit, RK_done])
    | (refine V_skip ?_; simp only [RK_seq, RK_seq_ret, RK_seq_exit, RK_blk, RK_blk_ret, RK_blk_exit, RK_loop, RK_loop_ret, RK_loop_exit, RK_done])
    | (refine V_exit ?_; simp [RK_seq, RK_seq_ret, RK_seq_exit, RK_blk, RK_blk_ret, RK_blk_exit, RK_loop, RK_loop_ret, RK_loop_exit, RK_done])
    | (refine ⟨?_, by omega⟩)
    | (refine ⟨fun hc => ?_, fun hc => ?_⟩ <;> (try (exfalso; omega)))
    | (intro hc <;> (try (exfalso; omega)))
    | (refine CallV.fun_ (h0) (by first | rfl | fail) (by first | assumption | (simp; done) | fail) (by first | (simp [g1, g1', g2, g2', g3, g4, g5, g6]; done) | (simp [g1, g1', g2, g2', g3, g4, g5, g6]; rfl) | fail) (by first | (simp; done) | fail) ?_ <;> (try simp [g1, g1', g2, g2', g3, g4, g5, g6]))
    | (refine CallP.fun_ (h0) (by first | rfl | fail) (by first | assumption | (simp; done) | fail) (by first | (simp [g1, g1', g2, g2', g3, g4, g5, g6]; done) | (simp [g1, g1', g2, g2', g3, g4, g5, g6]; rfl) | fail) (by first | (simp; done) | fail) (fun d hd => ?_); subst hd; (try simp [g1, g1', g2, g2', g3, g4, g5, g6])))
    all_goals
      (refine EndOK.val (.inr rfl) ?_; simp [resD, oneOrTup, pureD, Try.results7])
  obtain ⟨d, hd⟩ : ∃ d : Nat, a.tmod means.length = d := int_of_nat2 _ (Int.tmod_nonneg _ ha0)
  obtain ⟨k, hk⟩ : ∃ k : Nat, b.tmod means.length = k := int_of_nat2 _ (Int.tmod_nonneg _ hb0)
  have hdn : d < means.length := by have := Int.tmod_lt_of_pos a (show (0 : Int) < means.length by omega); omega
  have hkn : k < means.length := by have := Int.tmod_lt_of_pos b (show (0 : Int) < means.length by omega); omega
  have hnn : ¬ means = [] := fun h => by rw [h] at g1; simp at g1
  have hdg : ∀ i, i < means.length → means[i]? = some (Dof means i) := fun i h => by simp [Dof, List.getD_eq_getElem?_getD, h]
  have hms := lst_of (l := means) rfl
  have hMo : ∀ i, means.length ≤ i → Dof means i = 0 := fun i hi => Dof_out hi
  have hrep : List.replicate means.length [D.u (.int .i64 0)] = intR (lst means.length fun _ => 0) := by rw [intR_rep, lst_rep]
  have e1 : ∀ v, (lst means.length fun _ => 0).set d v = lst means.length (one d v) := fun v => by rw [lst_set]; rfl
  obtain ⟨bb, hb, h1⟩ := few_fun (lst means.length (one d debt)) B means 12 (by omega)
  have h1 : Fun Try.prog 9 [.u (ints (lst means.length (one d debt))), .u (lists B), .u (ints means), .u (.int .i64 12)] (· = .u (.bool bb)) := h1
  have hlr : ∀ l, lenR 1 (intR l) := fun l => by simp [intR]
  have hor : ∀ l, onesR (intR l) := fun l => by simp [intR]
  have hdi : (d : Int) < means.length := by omega
  cases bb with
  | false =>
    (refine Fun.of_body Try.func7 rfl (by simp) fun Γ hn => ?_); simp only [entry, List.zipIdx_cons, List.zipIdx_nil, List.map_cons, List.map_nil, Nat.zero_add, Try.ntmps7]
    repeat' (first
    | (refine H_cons ?_; simp [g1, g1', g2, g2', g3, g4, g5, g6, hnn, hd, hdn, hdi, hlr, hor, lst_len, hrep, e1, intR_len, intR_getE, intR_set, intR_all])
    | (refine HD2_val rfl ?_; simp [g1, g1', g2, g2', g3, g4, g5, g6, hnn, hd, hdn, hdi, hlr, hor, lst_len, hrep, e1, intR_len, intR_getE, intR_set, intR_all])
    | (refine HD_cons ?_; simp [g1, g1', g2, g2', g3, g4, g5, g6, hnn, hd, hdn, hdi, hlr, hor, lst_len, hrep, e1, intR_len, intR_getE, intR_set, intR_all])
    | (refine HD2_chg rfl ?_; simp [g1, g1', g2, g2', g3, g4, g5, g6, hnn, hd, hdn, hdi, hlr, hor, lst_len, hrep, e1, intR_len, intR_getE, intR_set, intR_all])
    | (refine H_nil ?_; simp [g1, g1', g2, g2', g3, g4, g5, g6, hnn, hd, hdn, hdi, hlr, hor, lst_len, hrep, e1, intR_len, intR_getE, intR_set, intR_all])
    | (refine ⟨by omega, ?_⟩)
    | (refine V_sseq ?_; simp [g1, g1', g2, g2', g3, g4, g5, g6, hnn, hd, hdn, hdi, hlr, hor, lst_len, hrep, e1, intR_len, intR_getE, intR_set, intR_all])
    | (refine V_scond ?_; simp [g1, g1', g2, g2', g3, g4, g5, g6, hnn, hd, hdn, hdi, hlr, hor, lst_len, hrep, e1, intR_len, intR_getE, intR_set, intR_all])
    | (refine HD2_nil (hC _ (by kernel_rfl)) (hk _ ?_); clear hC hk C k; simp only [RK_seq, RK_seq_ret, RK_seq_exit, RK_blk, RK_blk_ret, RK_blk_exit, RK_loop, RK_loop_ret, RK_loop_exit, RK_done])
    | (refine HD_nil ?_)
    | (refine hk _ ?_; clear hk k; simp only [RK_seq, RK_seq_ret, RK_seq_exit, RK_blk, RK_blk_ret, RK_blk_exit, RK_loop, RK_loop_ret, RK_loop_exit, RK_done])
    | (refine V_drawV rfl (by kernel_rfl) (by kernel_rfl) fun k hk => ?_; simp [g1, g1', g2, g2', g3, g4, g5, g6, hnn, hd, hdn, hdi, hlr, hor, lst_len, hrep, e1, intR_len, intR_getE, intR_set, intR_all])
    | (refine V_drawN rfl (by kernel_rfl) (by kernel_rfl) (by simp [hn]) fun C k hC hk => ?_; simp [g1, g1', g2, g2', g3, g4, g5, g6, hnn, hd, hdn, hdi, hlr, hor, lst_len, hrep, e1, intR_len, intR_getE, intR_set, intR_all])
    | (refine HD3_val rfl ?_; simp [g1, g1', g2, g2', g3, g4, g5, g6, hnn, hd, hdn, hdi, hlr, hor, lst_len, hrep, e1, intR_len, intR_getE, intR_set, intR_all])
    | (refine HD3_put ?_; simp [g1, g1', g2, g2', g3, g4, g5, g6, hnn, hd, hdn, hdi, hlr, hor, lst_len, hrep, e1, intR_len, intR_getE, intR_set, intR_all])
    | (refine HD3_chg rfl rfl ?_; simp [g1, g1', g2, g2', g3, g4, g5, g6, hnn, hd, hdn, hdi, hlr, hor, lst_len, hrep, e1, intR_len, intR_getE, intR_set, intR_all])
    | (refine HD3_nil (hC _ _ (by kernel_rfl) (by kernel_rfl)) (hk _ ?_); clear hC hk C k; simp only [RK_seq, RK_seq_ret, RK_seq_exit, RK_blk, RK_blk_ret, RK_blk_exit, RK_loop, RK_loop_ret, RK_loop_exit, RK_done]; simp [St.ins, insL, putE, getK_setOb, getK_cons])
    | (refine V_drawE rfl (by kernel_rfl) (by kernel_rfl) (by simp [hn]) fun C k hC hk => ?_; simp [g1, g1', g2, g2', g3, g4, g5, g6, hnn, hd, hdn, hdi, hlr, hor, lst_len, hrep, e1, intR_len, intR_getE, intR_set, intR_all])
    | (refine HD_guardU rfl (by simp [g1, g1', g2, g2', g3, g4, g5, g6, hnn, hd, hdn, hdi, hlr, hor, lst_len, hrep, e1, intR_len, intR_getE, intR_set, intR_all]) ?_; simp [g1, g1', g2, g2', g3, g4, g5, g6, hnn, hd, hdn, hdi, hlr, hor, lst_len, hrep, e1, intR_len, intR_getE, intR_set, intR_all])
    | (refine HD_guard rfl (by simp [g1, g1', g2, g2', g3, g4, g5, g6, hnn, hd, hdn, hdi, hlr, hor, lst_len, hrep, e1, intR_len, intR_getE, intR_set, intR_all]) (fun hc => ?_) (fun hc => ?_) <;> (try simp [g1, g1', g2, g2', g3, g4, g5, g6, hnn, hd, hdn, hdi, hlr, hor, lst_len, hrep, e1, intR_len, intR_getE, intR_set, intR_all] at hc) <;> (try (exfalso; omega)) <;> (try simp [g1, g1', g2, g2', g3, g4, g5, g6, hnn, hd, hdn, hdi, hlr, hor, lst_len, hrep, e1, intR_len, intR_getE, intR_set, intR_all]))
    | (refine HD2_guardU rfl (by simp [g1, g1', g2, g2', g3, g4, g5, g6, hnn, hd, hdn, hdi, hlr, hor, lst_len, hrep, e1, intR_len, intR_getE, intR_set, intR_all]) ?_; simp [g1, g1', g2, g2', g3, g4, g5, g6, hnn, hd, hdn, hdi, hlr, hor, lst_len, hrep, e1, intR_len, intR_getE, intR_set, intR_all])
    | (refine HD2_guard rfl (by simp [g1, g1', g2, g2', g3, g4, g5, g6, hnn, hd, hdn, hdi, hlr, hor, lst_len, hrep, e1, intR_len, intR_getE, intR_set, intR_all]) (fun hc => ?_) (fun hc => ?_) <;> (try simp [g1, g1', g2, g2', g3, g4, g5, g6, hnn, hd, hdn, hdi, hlr, hor, lst_len, hrep, e1, intR_len, intR_getE, intR_set, intR_all] at hc) <;> (try (exfalso; omega)) <;> (try simp [g1, g1', g2, g2', g3, g4, g5, g6, hnn, hd, hdn, hdi, hlr, hor, lst_len, hrep, e1, intR_len, intR_getE, intR_set, intR_all]))
    | (refine V_sblock ?_; simp [g1, g1', g2, g2', g3, g4, g5, g6, hnn, hd, hdn, hdi, hlr, hor, lst_len, hrep, e1, intR_len, intR_getE, intR_set, intR_all])
    | (refine V_sregion ?_; simp [g1, g1', g2, g2', g3, g4, g5, g6, hnn, hd, hdn, hdi, hlr, hor, lst_len, hrep, e1, intR_len, intR_getE, intR_set, intR_all])
    | (refine V_ret ?_; simp only [RK_seq, RK_seq_ret, RK_seq_exit, RK_blk, RK_blk_ret, RK_blk_exit, RK_loop, RK_loop_ret, RK_loop_exit, RK_done])
    | (refine V_skip ?_; simp only [RK_seq, RK_seq_ret, RK_seq_exit, RK_blk, RK_blk_ret, RK_blk_exit, RK_loop, RK_loop_ret, RK_loop_exit, RK_done])
    | (refine V_exit ?_; simp [RK_seq, RK_seq_ret, RK_seq_exit, RK_blk, RK_blk_ret, RK_blk_exit, RK_loop, RK_loop_ret, RK_loop_exit, RK_done])
    | (refine ⟨?_, by omega⟩)
    | (refine ⟨fun hc => ?_, fun hc => ?_⟩ <;> (try (exfalso; omega)))
    | (intro hc <;> (try (exfalso; omega)))
    | (refine CallV.fun_ (h0) (by first | rfl | fail) (by first | assumption | (simp; done) | fail) (by first | (simp [g1, g1', g2, g2', g3, g4, g5, g6, hnn, hd, hdn, hdi, hlr, hor, lst_len, hrep, e1, intR_len, intR_getE, intR_set, intR_all]; done) | (simp [g1, g1', g2, g2', g3, g4, g5, g6, hnn, hd, hdn, hdi, hlr, hor, lst_len, hrep, e1, intR_len, intR_getE, intR_set, intR_all]; rfl) | fail) (by first | (simp; done) | fail) ?_ <;> (try simp [g1, g1', g2, g2', g3, g4, g5, g6, hnn, hd, hdn, hdi, hlr, hor, lst_len, hrep, e1, intR_len, intR_getE, intR_set, intR_all]))
    | (refine CallP.fun_ (h0) (by first | rfl | fail) (by first | assumption | (simp; done) | fail) (by first | (simp [g1, g1', g2, g2', g3, g4, g5, g6, hnn, hd, hdn, hdi, hlr, hor, lst_len, hrep, e1, intR_len, intR_getE, intR_set, intR_all]; done) | (simp [g1, g1', g2, g2', g3, g4, g5, g6, hnn, hd, hdn, hdi, hlr, hor, lst_len, hrep, e1, intR_len, intR_getE, intR_set, intR_all]; rfl) | fail) (by first | (simp; done) | fail) (fun d hd => ?_); subst hd; (try simp [g1, g1', g2, g2', g3, g4, g5, g6, hnn, hd, hdn, hdi, hlr, hor, lst_len, hrep, e1, intR_len, intR_getE, intR_set, intR_all]))
    | (refine CallV.fun_ (h1) (by first | rfl | fail) (by first | assumption | (simp; done) | fail) (by first | (simp [g1, g1', g2, g2', g3, g4, g5, g6, hnn, hd, hdn, hdi, hlr, hor, lst_len, hrep, e1, intR_len, intR_getE, intR_set, intR_all]; done) | (simp [g1, g1', g2, g2', g3, g4, g5, g6, hnn, hd, hdn, hdi, hlr, hor, lst_len, hrep, e1, intR_len, intR_getE, intR_set, intR_all]; rfl) | fail) (by first | (simp; done) | fail) ?_ <;> (try simp [g1, g1', g2, g2', g3, g4, g5, g6, hnn, hd, hdn, hdi, hlr, hor, lst_len, hrep, e1, intR_len, intR_getE, intR_set, intR_all]))
    | (refine CallP.fun_ (h1) (by first | rfl | fail) (by first | assumption | (simp; done) | fail) (by first | (simp [g1, g1', g2, g2', g3, g4, g5, g6, hnn, hd, hdn, hdi, hlr, hor, lst_len, hrep, e1, intR_len, intR_getE, intR_set, intR_all]; done) | (simp [g1, g1', g2, g2', g3, g4, g5, g6, hnn, hd, hdn, hdi, hlr, hor, lst_len, hrep, e1, intR_len, intR_getE, intR_set, intR_all]; rfl) | fail) (by first | (simp; done) | fail) (fun d hd => ?_); subst hd; (try simp [g1, g1', g2, g2', g3, g4, g5, g6, hnn, hd, hdn, hdi, hlr, hor, lst_len, hrep, e1, intR_len, intR_getE, intR_set, intR_all])))
    all_goals
      (refine EndOK.val (.inr rfl) ?_; simp [resD, oneOrTup, pureD, Try.results7])
  | true =>
    obtain ⟨f1, f2, f3, f4⟩ := fewB_out (hb rfl)
    have f5 : ∀ r ∈ B, r.length ≤ 1000 := fun r hr => by have := f4 r hr; omega
    have h2 := right_fun (lst means.length (one d debt)) B means (by rw [lst_len]; omega) (by omega) (by omega) (fun r hr => by have := f4 r hr; omega)
    by_cases hr : rightB (lst means.length (one d debt)) B means = true
    case neg =>
      rw [show rightB (lst means.length (one d debt)) B means = false by simpa using hr] at h2
      (refine Fun.of_body Try.func7 rfl (by simp) fun Γ hn => ?_); simp only [entry, List.zipIdx_cons, List.zipIdx_nil, List.map_cons, List.map_nil, Nat.zero_add, Try.ntmps7]
      repeat' (first
    | (refine H_cons ?_; simp [g1, g1', g2, g2', g3, g4, g5, g6, hnn, hd, hdn, hdi, hlr, hor, lst_len, hrep, e1, intR_len, intR_getE, intR_set, intR_all])
    | (refine HD2_val rfl ?_; simp [g1, g1', g2, g2', g3, g4, g5, g6, hnn, hd, hdn, hdi, hlr, hor, lst_len, hrep, e1, intR_len, intR_getE, intR_set, intR_all])
    | (refine HD_cons ?_; simp [g1, g1', g2, g2', g3, g4, g5, g6, hnn, hd, hdn, hdi, hlr, hor, lst_len, hrep, e1, intR_len, intR_getE, intR_set, intR_all])
    | (refine HD2_chg rfl ?_; simp [g1, g1', g2, g2', g3, g4, g5, g6, hnn, hd, hdn, hdi, hlr, hor, lst_len, hrep, e1, intR_len, intR_getE, intR_set, intR_all])
    | (refine H_nil ?_; simp [g1, g1', g2, g2', g3, g4, g5, g6, hnn, hd, hdn, hdi, hlr, hor, lst_len, hrep, e1, intR_len, intR_getE, intR_set, intR_all])
    | (refine ⟨by omega, ?_⟩)
    | (refine V_sseq ?_; simp [g1, g1', g2, g2', g3, g4, g5, g6, hnn, hd, hdn, hdi, hlr, hor, lst_len, hrep, e1, intR_len, intR_getE, intR_set, intR_all])
    | (refine V_scond ?_; simp [g1, g1', g2, g2', g3, g4, g5, g6, hnn, hd, hdn, hdi, hlr, hor, lst_len, hrep, e1, intR_len, intR_getE, intR_set, intR_all])
    | (refine HD2_nil (hC _ (by kernel_rfl)) (hk _ ?_); clear hC hk C k; simp only [RK_seq, RK_seq_ret, RK_seq_exit, RK_blk, RK_blk_ret, RK_blk_exit, RK_loop, RK_loop_ret, RK_loop_exit, RK_done])
    | (refine HD_nil ?_)
    | (refine hk _ ?_; clear hk k; simp only [RK_seq, RK_seq_ret, RK_seq_exit, RK_blk, RK_blk_ret, RK_blk_exit, RK_loop, RK_loop_ret, RK_loop_exit, RK_done])
    | (refine V_drawV rfl (by kernel_rfl) (by kernel_rfl) fun k hk => ?_; simp [g1, g1', g2, g2', g3, g4, g5, g6, hnn, hd, hdn, hdi, hlr, hor, lst_len, hrep, e1, intR_len, intR_getE, intR_set, intR_all])
    | (refine V_drawN rfl (by kernel_rfl) (by kernel_rfl) (by simp [hn]) fun C k hC hk => ?_; simp [g1, g1', g2, g2', g3, g4, g5, g6, hnn, hd, hdn, hdi, hlr, hor, lst_len, hrep, e1, intR_len, intR_getE, intR_set, intR_all])
    | (refine HD3_val rfl ?_; simp [g1, g1', g2, g2', g3, g4, g5, g6, hnn, hd, hdn, hdi, hlr, hor, lst_len, hrep, e1, intR_len, intR_getE, intR_set, intR_all])
    | (refine HD3_put ?_; simp [g1, g1', g2, g2', g3, g4, g5, g6, hnn, hd, hdn, hdi, hlr, hor, lst_len, hrep, e1, intR_len, intR_getE, intR_set, intR_all])
    | (refine HD3_chg rfl rfl ?_; simp [g1, g1', g2, g2', g3, g4, g5, g6, hnn, hd, hdn, hdi, hlr, hor, lst_len, hrep, e1, intR_len, intR_getE, intR_set, intR_all])
    | (refine HD3_nil (hC _ _ (by kernel_rfl) (by kernel_rfl)) (hk _ ?_); clear hC hk C k; simp only [RK_seq, RK_seq_ret, RK_seq_exit, RK_blk, RK_blk_ret, RK_blk_exit, RK_loop, RK_loop_ret, RK_loop_exit, RK_done]; simp [St.ins, insL, putE, getK_setOb, getK_cons])
    | (refine V_drawE rfl (by kernel_rfl) (by kernel_rfl) (by simp [hn]) fun C k hC hk => ?_; simp [g1, g1', g2, g2', g3, g4, g5, g6, hnn, hd, hdn, hdi, hlr, hor, lst_len, hrep, e1, intR_len, intR_getE, intR_set, intR_all])
    | (refine HD_guardU rfl (by simp [g1, g1', g2, g2', g3, g4, g5, g6, hnn, hd, hdn, hdi, hlr, hor, lst_len, hrep, e1, intR_len, intR_getE, intR_set, intR_all]) ?_; simp [g1, g1', g2, g2', g3, g4, g5, g6, hnn, hd, hdn, hdi, hlr, hor, lst_len, hrep, e1, intR_len, intR_getE, intR_set, intR_all])
    | (refine HD_guard rfl (by simp [g1, g1', g2, g2', g3, g4, g5, g6, hnn, hd, hdn, hdi, hlr, hor, lst_len, hrep, e1, intR_len, intR_getE, intR_set, intR_all]) (fun hc => ?_) (fun hc => ?_) <;> (try simp [g1, g1', g2, g2', g3, g4, g5, g6, hnn, hd, hdn, hdi, hlr, hor, lst_len, hrep, e1, intR_len, intR_getE, intR_set, intR_all] at hc) <;> (try (exfalso; omega)) <;> (try simp [g1, g1', g2, g2', g3, g4, g5, g6, hnn, hd, hdn, hdi, hlr, hor, lst_len, hrep, e1, intR_len, intR_getE, intR_set, intR_all]))
    | (refine HD2_guardU rfl (by simp [g1, g1', g2, g2', g3, g4, g5, g6, hnn, hd, hdn, hdi, hlr, hor, lst_len, hrep, e1, intR_len, intR_getE, intR_set, intR_all]) ?_; simp [g1, g1', g2, g2', g3, g4, g5, g6, hnn, hd, hdn, hdi, hlr, hor, lst_len, hrep, e1, intR_len, intR_getE, intR_set, intR_all])
    | (refine HD2_guard rfl (by simp [g1, g1', g2, g2', g3, g4, g5, g6, hnn, hd, hdn, hdi, hlr, hor, lst_len, hrep, e1, intR_len, intR_getE, intR_set, intR_all]) (fun hc => ?_) (fun hc => ?_) <;> (try simp [g1, g1', g2, g2', g3, g4, g5, g6, hnn, hd, hdn, hdi, hlr, hor, lst_len, hrep, e1, intR_len, intR_getE, intR_set, intR_all] at hc) <;> (try (exfalso; omega)) <;> (try simp [g1, g1', g2, g2', g3, g4, g5, g6, hnn, hd, hdn, hdi, hlr, hor, lst_len, hrep, e1, intR_len, intR_getE, intR_set, intR_all]))
    | (refine V_sblock ?_; simp [g1, g1', g2, g2', g3, g4, g5, g6, hnn, hd, hdn, hdi, hlr, hor, lst_len, hrep, e1, intR_len, intR_getE, intR_set, intR_all])
    | (refine V_sregion ?_; simp [g1, g1', g2, g2', g3, g4, g5, g6, hnn, hd, hdn, hdi, hlr, hor, lst_len, hrep, e1, intR_len, intR_getE, intR_set, intR_all])
    | (refine V_ret ?_; simp only [RK_seq, RK_seq_ret, RK_seq_exit, RK_blk, RK_blk_ret, RK_blk_exit, RK_loop, RK_loop_ret, RK_loop_exit, RK_done])
    | (refine V_skip ?_; simp only [RK_seq, RK_seq_ret, RK_seq_exit, RK_blk, RK_blk_ret, RK_blk_exit, RK_loop, RK_loop_ret, RK_loop_exit, RK_done])
    | (refine V_exit ?_; simp [RK_seq, RK_seq_ret, RK_seq_exit, RK_blk, RK_blk_ret, RK_blk_exit, RK_loop, RK_loop_ret, RK_loop_exit, RK_done])
    | (refine ⟨?_, by omega⟩)
    | (refine ⟨fun hc => ?_, fun hc => ?_⟩ <;> (try (exfalso; omega)))
    | (intro hc <;> (try (exfalso; omega)))
    | (refine CallV.fun_ (h0) (by first | rfl | fail) (by first | assumption | (simp; done) | fail) (by first | (simp [g1, g1', g2, g2', g3, g4, g5, g6, hnn, hd, hdn, hdi, hlr, hor, lst_len, hrep, e1, intR_len, intR_getE, intR_set, intR_all]; done) | (simp [g1, g1', g2, g2', g3, g4, g5, g6, hnn, hd, hdn, hdi, hlr, hor, lst_len, hrep, e1, intR_len, intR_getE, intR_set, intR_all]; rfl) | fail) (by first | (simp; done) | fail) ?_ <;> (try simp [g1, g1', g2, g2', g3, g4, g5, g6, hnn, hd, hdn, hdi, hlr, hor, lst_len, hrep, e1, intR_len, intR_getE, intR_set, intR_all]))
    | (refine CallP.fun_ (h0) (by first | rfl | fail) (by first | assumption | (simp; done) | fail) (by first | (simp [g1, g1', g2, g2', g3, g4, g5, g6, hnn, hd, hdn, hdi, hlr, hor, lst_len, hrep, e1, intR_len, intR_getE, intR_set, intR_all]; done) | (simp [g1, g1', g2, g2', g3, g4, g5, g6, hnn, hd, hdn, hdi, hlr, hor, lst_len, hrep, e1, intR_len, intR_getE, intR_set, intR_all]; rfl) | fail) (by first | (simp; done) | fail) (fun d hd => ?_); subst hd; (try simp [g1, g1', g2, g2', g3, g4, g5, g6, hnn, hd, hdn, hdi, hlr, hor, lst_len, hrep, e1, intR_len, intR_getE, intR_set, intR_all]))
    | (refine CallV.fun_ (h1) (by first | rfl | fail) (by first | assumption | (simp; done) | fail) (by first | (simp [g1, g1', g2, g2', g3, g4, g5, g6, hnn, hd, hdn, hdi, hlr, hor, lst_len, hrep, e1, intR_len, intR_getE, intR_set, intR_all]; done) | (simp [g1, g1', g2, g2', g3, g4, g5, g6, hnn, hd, hdn, hdi, hlr, hor, lst_len, hrep, e1, intR_len, intR_getE, intR_set, intR_all]; rfl) | fail) (by first | (simp; done) | fail) ?_ <;> (try simp [g1, g1', g2, g2', g3, g4, g5, g6, hnn, hd, hdn, hdi, hlr, hor, lst_len, hrep, e1, intR_len, intR_getE, intR_set, intR_all]))
    | (refine CallP.fun_ (h1) (by first | rfl | fail) (by first | assumption | (simp; done) | fail) (by first | (simp [g1, g1', g2, g2', g3, g4, g5, g6, hnn, hd, hdn, hdi, hlr, hor, lst_len, hrep, e1, intR_len, intR_getE, intR_set, intR_all]; done) | (simp [g1, g1', g2, g2', g3, g4, g5, g6, hnn, hd, hdn, hdi, hlr, hor, lst_len, hrep, e1, intR_len, intR_getE, intR_set, intR_all]; rfl) | fail) (by first | (simp; done) | fail) (fun d hd => ?_); subst hd; (try simp [g1, g1', g2, g2', g3, g4, g5, g6, hnn, hd, hdn, hdi, hlr, hor, lst_len, hrep, e1, intR_len, intR_getE, intR_set, intR_all]))
    | (refine CallV.fun_ (h2) (by first | rfl | fail) (by first | assumption | (simp; done) | fail) (by first | (simp [g1, g1', g2, g2', g3, g4, g5, g6, hnn, hd, hdn, hdi, hlr, hor, lst_len, hrep, e1, intR_len, intR_getE, intR_set, intR_all]; done) | (simp [g1, g1', g2, g2', g3, g4, g5, g6, hnn, hd, hdn, hdi, hlr, hor, lst_len, hrep, e1, intR_len, intR_getE, intR_set, intR_all]; rfl) | fail) (by first | (simp; done) | fail) ?_ <;> (try simp [g1, g1', g2, g2', g3, g4, g5, g6, hnn, hd, hdn, hdi, hlr, hor, lst_len, hrep, e1, intR_len, intR_getE, intR_set, intR_all]))
    | (refine CallP.fun_ (h2) (by first | rfl | fail) (by first | assumption | (simp; done) | fail) (by first | (simp [g1, g1', g2, g2', g3, g4, g5, g6, hnn, hd, hdn, hdi, hlr, hor, lst_len, hrep, e1, intR_len, intR_getE, intR_set, intR_all]; done) | (simp [g1, g1', g2, g2', g3, g4, g5, g6, hnn, hd, hdn, hdi, hlr, hor, lst_len, hrep, e1, intR_len, intR_getE, intR_set, intR_all]; rfl) | fail) (by first | (simp; done) | fail) (fun d hd => ?_); subst hd; (try simp [g1, g1', g2, g2', g3, g4, g5, g6, hnn, hd, hdn, hdi, hlr, hor, lst_len, hrep, e1, intR_len, intR_getE, intR_set, intR_all])))
      all_goals
        (refine EndOK.val (.inr rfl) ?_; simp [resD, oneOrTup, pureD, Try.results7])
    rw [hr] at h2
    obtain ⟨hn60, hml, hB, hM, hD⟩ := right_out hr
    simp only [lst_len] at hn60 hml hB hM hD
    clear hD hb f1 g1 g2
    have hr1 : ∀ f g : Nat → Int, (∀ d, d < means.length → 0 ≤ f d ∧ f d ≤ maxC) → (∀ d, d < means.length → 0 ≤ g d ∧ g d ≤ maxC) → rightB (lst means.length f) B (lst means.length g) = true := fun f g hf hg =>
      rightB_swap hr (by rw [lst_len, lst_len]) (lst_len _ _) (lst_mem_of hf) (lst_mem_of hg)
    generalize hMe : Dof means = Me at hM hms hr1 hMo hdg
    generalize hne : means.length = n at *
    have hgE : ∀ i (h : i < means.length), means[i] = Me i := fun i h => (List.getElem?_eq_some_iff.1 (hdg i (by omega))).2
    have hme : ∀ d, d < n → 0 ≤ Me d ∧ Me d ≤ maxC := fun d hd => ⟨hM.lo d hd, hM.hi d hd⟩
    have hone : ∀ v, 0 ≤ v ∧ v ≤ maxC → ∀ i, i < n → 0 ≤ one d v i ∧ one d v i ≤ maxC := fun v hv i _ => by unfold one; split <;> first | omega | (simp only [maxC]; omega)
    have hfl : ∀ i, i < n → 0 ≤ (fun i => if i = k then maxC else Me i) i ∧ (fun i => if i = k then maxC else Me i) i ≤ maxC := fun i hi => by
      have := hme i hi
      simp only [maxC] at *
      split <;> omega
    have q0 : 0 ≤ debt ∧ debt ≤ maxC := by simp only [maxC]; omega
    have q1 : 0 ≤ debt + more ∧ debt + more ≤ maxC := by simp only [maxC]; omega
    have h31 := move_lst (B := B) (f := one d debt) (g := Me) hn60 (by omega) f5 (fun i hi => if_neg (by omega)) hMo (hr1 _ _ (hone _ q0) hme)
    have h32 := move_lst (B := B) (f := one d (debt + more)) (g := Me) hn60 (by omega) f5 (fun i hi => if_neg (by omega)) hMo (hr1 _ _ (hone _ q1) hme)
    have h33 := move_lst (B := B) (f := one d debt) (g := fun i => if i = k then maxC else Me i) hn60 (by omega) f5 (fun i hi => if_neg (by omega)) (fun i hi => by rw [if_neg (by omega)]; exact hMo i hi) (hr1 _ _ (hone _ q0) hfl)
    rw [show lst n Me = means from hms] at h31 h32
    have hlg : means.set k 1099511627776 = lst n (fun i => if i = k then maxC else Me i) := by
      rw [← hms, lst_set]; rfl
    have hli : ∀ l : List Int, (l.map fun z => [D.u (.int .i64 z)]) = intR l := fun l => rfl
    have h4 := fun P L => shaped_fun (matL n P) (lst n L) n (by omega) (by simp [matL]) (lst_len _ _) (fun r hr => by obtain ⟨i, _, rfl⟩ := List.mem_map.1 hr; exact lst_len _ _)
    have h41 := h4 (paidAt n B (one d debt) Me) (leftAt n B (one d debt) Me)
    have h42 := h4 (paidAt n B (one d (debt + more)) Me) (leftAt n B (one d (debt + more)) Me)
    have h43 := h4 (paidAt n B (one d debt) fun i => if i = k then maxC else Me i) (leftAt n B (one d debt) fun i => if i = k then maxC else Me i)
    have h6 := levels_fun n d B (by omega) hB hdn
    have hin : ∀ i : Nat, Fun Try.prog 19 [.u (lists ((levelsOf n B d).map nats)), .u (.int .i64 i)] (· = .u (.int .i64 (lvOf n B d i))) := fun i => by
      have hll := levelsOf_len n B d
      exact within_fun ((levelsOf n B d).map nats) (i : Int) (by simp; omega) (fun r hr => by obtain ⟨l, hl, rfl⟩ := List.mem_map.1 hr; have := seen_len ((levelsOf_ok n B d).nd l hl) ((levelsOf_ok n B d).lt l hl); simp; omega)
    obtain ⟨p1, p2, p3, p4, p5⟩ := grows_plain (B := B) hM hdn hkn (a := debt) (b := debt + more) q0.1 (by omega) q1.2
    have hsc := sum_cap hM B d
    generalize hG : (fun i => if i = k then maxC else Me i) = GM at *
    (refine Fun.of_body Try.func7 rfl (by simp) fun Γ hn => ?_); simp only [entry, List.zipIdx_cons, List.zipIdx_nil, List.map_cons, List.map_nil, Nat.zero_add, Try.ntmps7]
    repeat' (first
    | (refine H_cons ?_; simp [g1', g2', g3, g4, g5, g6, hnn, hd, hdn, hdi, hlr, hor, lst_len, hrep, e1, intR_len, intR_getE, intR_set, intR_all, hne])
    | (refine HD2_val rfl ?_; simp [g1', g2', g3, g4, g5, g6, hnn, hd, hdn, hdi, hlr, hor, lst_len, hrep, e1, intR_len, intR_getE, intR_set, intR_all, hne])
    | (refine HD_cons ?_; simp [g1', g2', g3, g4, g5, g6, hnn, hd, hdn, hdi, hlr, hor, lst_len, hrep, e1, intR_len, intR_getE, intR_set, intR_all, hne])
    | (refine HD2_chg rfl ?_; simp [g1', g2', g3, g4, g5, g6, hnn, hd, hdn, hdi, hlr, hor, lst_len, hrep, e1, intR_len, intR_getE, intR_set, intR_all, hne])
    | (refine H_nil ?_; simp [g1', g2', g3, g4, g5, g6, hnn, hd, hdn, hdi, hlr, hor, lst_len, hrep, e1, intR_len, intR_getE, intR_set, intR_all, hne])
    | (refine ⟨by omega, ?_⟩)
    | (refine V_sseq ?_; simp [g1', g2', g3, g4, g5, g6, hnn, hd, hdn, hdi, hlr, hor, lst_len, hrep, e1, intR_len, intR_getE, intR_set, intR_all, hne])
    | (refine V_scond ?_; simp [g1', g2', g3, g4, g5, g6, hnn, hd, hdn, hdi, hlr, hor, lst_len, hrep, e1, intR_len, intR_getE, intR_set, intR_all, hne])
    | (refine HD2_nil (hC _ (by kernel_rfl)) (hk _ ?_); clear hC hk C k; simp only [RK_seq, RK_seq_ret, RK_seq_exit, RK_blk, RK_blk_ret, RK_blk_exit, RK_loop, RK_loop_ret, RK_loop_exit, RK_done])
    | (refine HD_nil ?_)
    | (refine hk _ ?_; clear hk k; simp only [RK_seq, RK_seq_ret, RK_seq_exit, RK_blk, RK_blk_ret, RK_blk_exit, RK_loop, RK_loop_ret, RK_loop_exit, RK_done])
    | (refine V_drawV rfl (by kernel_rfl) (by kernel_rfl) fun k hk => ?_; simp [g1', g2', g3, g4, g5, g6, hnn, hd, hdn, hdi, hlr, hor, lst_len, hrep, e1, intR_len, intR_getE, intR_set, intR_all, hne])
    | (refine V_drawN rfl (by kernel_rfl) (by kernel_rfl) (by simp [hn]) fun C k hC hk => ?_; simp [g1', g2', g3, g4, g5, g6, hnn, hd, hdn, hdi, hlr, hor, lst_len, hrep, e1, intR_len, intR_getE, intR_set, intR_all, hne])
    | (refine HD3_val rfl ?_; simp [g1', g2', g3, g4, g5, g6, hnn, hd, hdn, hdi, hlr, hor, lst_len, hrep, e1, intR_len, intR_getE, intR_set, intR_all, hne])
    | (refine HD3_put ?_; simp [g1', g2', g3, g4, g5, g6, hnn, hd, hdn, hdi, hlr, hor, lst_len, hrep, e1, intR_len, intR_getE, intR_set, intR_all, hne])
    | (refine HD3_chg rfl rfl ?_; simp [g1', g2', g3, g4, g5, g6, hnn, hd, hdn, hdi, hlr, hor, lst_len, hrep, e1, intR_len, intR_getE, intR_set, intR_all, hne])
    | (refine HD3_nil (hC _ _ (by kernel_rfl) (by kernel_rfl)) (hk _ ?_); clear hC hk C k; simp only [RK_seq, RK_seq_ret, RK_seq_exit, RK_blk, RK_blk_ret, RK_blk_exit, RK_loop, RK_loop_ret, RK_loop_exit, RK_done]; simp [St.ins, insL, putE, getK_setOb, getK_cons])
    | (refine V_drawE rfl (by kernel_rfl) (by kernel_rfl) (by simp [hn]) fun C k hC hk => ?_; simp [g1', g2', g3, g4, g5, g6, hnn, hd, hdn, hdi, hlr, hor, lst_len, hrep, e1, intR_len, intR_getE, intR_set, intR_all, hne])
    | (refine HD_guardU rfl (by simp [g1', g2', g3, g4, g5, g6, hnn, hd, hdn, hdi, hlr, hor, lst_len, hrep, e1, intR_len, intR_getE, intR_set, intR_all, hne]) ?_; simp [g1', g2', g3, g4, g5, g6, hnn, hd, hdn, hdi, hlr, hor, lst_len, hrep, e1, intR_len, intR_getE, intR_set, intR_all, hne])
    | (refine HD_guard rfl (by simp [g1', g2', g3, g4, g5, g6, hnn, hd, hdn, hdi, hlr, hor, lst_len, hrep, e1, intR_len, intR_getE, intR_set, intR_all, hne]) (fun hc => ?_) (fun hc => ?_) <;> (try simp [g1', g2', g3, g4, g5, g6, hnn, hd, hdn, hdi, hlr, hor, lst_len, hrep, e1, intR_len, intR_getE, intR_set, intR_all, hne] at hc) <;> (try (exfalso; omega)) <;> (try simp [g1', g2', g3, g4, g5, g6, hnn, hd, hdn, hdi, hlr, hor, lst_len, hrep, e1, intR_len, intR_getE, intR_set, intR_all, hne]))
    | (refine HD2_guardU rfl (by simp [g1', g2', g3, g4, g5, g6, hnn, hd, hdn, hdi, hlr, hor, lst_len, hrep, e1, intR_len, intR_getE, intR_set, intR_all, hne]) ?_; simp [g1', g2', g3, g4, g5, g6, hnn, hd, hdn, hdi, hlr, hor, lst_len, hrep, e1, intR_len, intR_getE, intR_set, intR_all, hne])
    | (refine HD2_guard rfl (by simp [g1', g2', g3, g4, g5, g6, hnn, hd, hdn, hdi, hlr, hor, lst_len, hrep, e1, intR_len, intR_getE, intR_set, intR_all, hne]) (fun hc => ?_) (fun hc => ?_) <;> (try simp [g1', g2', g3, g4, g5, g6, hnn, hd, hdn, hdi, hlr, hor, lst_len, hrep, e1, intR_len, intR_getE, intR_set, intR_all, hne] at hc) <;> (try (exfalso; omega)) <;> (try simp [g1', g2', g3, g4, g5, g6, hnn, hd, hdn, hdi, hlr, hor, lst_len, hrep, e1, intR_len, intR_getE, intR_set, intR_all, hne]))
    | (refine V_sblock ?_; simp [g1', g2', g3, g4, g5, g6, hnn, hd, hdn, hdi, hlr, hor, lst_len, hrep, e1, intR_len, intR_getE, intR_set, intR_all, hne])
    | (refine V_sregion ?_; simp [g1', g2', g3, g4, g5, g6, hnn, hd, hdn, hdi, hlr, hor, lst_len, hrep, e1, intR_len, intR_getE, intR_set, intR_all, hne])
    | (refine V_ret ?_; simp only [RK_seq, RK_seq_ret, RK_seq_exit, RK_blk, RK_blk_ret, RK_blk_exit, RK_loop, RK_loop_ret, RK_loop_exit, RK_done])
    | (refine V_skip ?_; simp only [RK_seq, RK_seq_ret, RK_seq_exit, RK_blk, RK_blk_ret, RK_blk_exit, RK_loop, RK_loop_ret, RK_loop_exit, RK_done])
    | (refine V_exit ?_; simp [RK_seq, RK_seq_ret, RK_seq_exit, RK_blk, RK_blk_ret, RK_blk_exit, RK_loop, RK_loop_ret, RK_loop_exit, RK_done])
    | (refine ⟨?_, by omega⟩)
    | (refine ⟨fun hc => ?_, fun hc => ?_⟩ <;> (try (exfalso; omega)))
    | (intro hc <;> (try (exfalso; omega)))
    | (refine CallV.fun_ (h0) (by first | rfl | fail) (by first | assumption | (simp; done) | fail) (by first | (simp [g1', g2', g3, g4, g5, g6, hnn, hd, hdn, hdi, hlr, hor, lst_len, hrep, e1, intR_len, intR_getE, intR_set, intR_all, hne]; done) | (simp [g1', g2', g3, g4, g5, g6, hnn, hd, hdn, hdi, hlr, hor, lst_len, hrep, e1, intR_len, intR_getE, intR_set, intR_all, hne]; rfl) | fail) (by first | (simp; done) | fail) ?_ <;> (try simp [g1', g2', g3, g4, g5, g6, hnn, hd, hdn, hdi, hlr, hor, lst_len, hrep, e1, intR_len, intR_getE, intR_set, intR_all, hne]))
    | (refine CallP.fun_ (h0) (by first | rfl | fail) (by first | assumption | (simp; done) | fail) (by first | (simp [g1', g2', g3, g4, g5, g6, hnn, hd, hdn, hdi, hlr, hor, lst_len, hrep, e1, intR_len, intR_getE, intR_set, intR_all, hne]; done) | (simp [g1', g2', g3, g4, g5, g6, hnn, hd, hdn, hdi, hlr, hor, lst_len, hrep, e1, intR_len, intR_getE, intR_set, intR_all, hne]; rfl) | fail) (by first | (simp; done) | fail) (fun d hd => ?_); subst hd; (try simp [g1', g2', g3, g4, g5, g6, hnn, hd, hdn, hdi, hlr, hor, lst_len, hrep, e1, intR_len, intR_getE, intR_set, intR_all, hne])))
    refine CallP_wk (Wk.frzN 6 _) ?_
    simp [frzN, frz1, frz_env, frz_obs, St.frz, St.frzS, frzS, fv, fzVec, frzObS, frz_rowsD, del, frz, frzOb, intR_all, lst_len]
    repeat' (first
    | (refine H_cons ?_; simp [g1', g2', g3, g4, g5, g6, hnn, hd, hdn, hdi, hlr, hor, lst_len, hrep, e1, intR_len, intR_getE, intR_set, intR_all, hne])
    | (refine HD2_val rfl ?_; simp [g1', g2', g3, g4, g5, g6, hnn, hd, hdn, hdi, hlr, hor, lst_len, hrep, e1, intR_len, intR_getE, intR_set, intR_all, hne])
    | (refine HD_cons ?_; simp [g1', g2', g3, g4, g5, g6, hnn, hd, hdn, hdi, hlr, hor, lst_len, hrep, e1, intR_len, intR_getE, intR_set, intR_all, hne])
    | (refine HD2_chg rfl ?_; simp [g1', g2', g3, g4, g5, g6, hnn, hd, hdn, hdi, hlr, hor, lst_len, hrep, e1, intR_len, intR_getE, intR_set, intR_all, hne])
    | (refine H_nil ?_; simp [g1', g2', g3, g4, g5, g6, hnn, hd, hdn, hdi, hlr, hor, lst_len, hrep, e1, intR_len, intR_getE, intR_set, intR_all, hne])
    | (refine ⟨by omega, ?_⟩)
    | (refine V_sseq ?_; simp [g1', g2', g3, g4, g5, g6, hnn, hd, hdn, hdi, hlr, hor, lst_len, hrep, e1, intR_len, intR_getE, intR_set, intR_all, hne])
    | (refine V_scond ?_; simp [g1', g2', g3, g4, g5, g6, hnn, hd, hdn, hdi, hlr, hor, lst_len, hrep, e1, intR_len, intR_getE, intR_set, intR_all, hne])
    | (refine HD2_nil (hC _ (by kernel_rfl)) (hk _ ?_); clear hC hk C k; simp only [RK_seq, RK_seq_ret, RK_seq_exit, RK_blk, RK_blk_ret, RK_blk_exit, RK_loop, RK_loop_ret, RK_loop_exit, RK_done])
    | (refine HD_nil ?_)
    | (refine hk _ ?_; clear hk k; simp only [RK_seq, RK_seq_ret, RK_seq_exit, RK_blk, RK_blk_ret, RK_blk_exit, RK_loop, RK_loop_ret, RK_loop_exit, RK_done])
    | (refine V_drawV rfl (by kernel_rfl) (by kernel_rfl) fun k hk => ?_; simp [g1', g2', g3, g4, g5, g6, hnn, hd, hdn, hdi, hlr, hor, lst_len, hrep, e1, intR_len, intR_getE, intR_set, intR_all, hne])
    | (refine V_drawN rfl (by kernel_rfl) (by kernel_rfl) (by simp [hn]) fun C k hC hk => ?_; simp [g1', g2', g3, g4, g5, g6, hnn, hd, hdn, hdi, hlr, hor, lst_len, hrep, e1, intR_len, intR_getE, intR_set, intR_all, hne])
    | (refine HD3_val rfl ?_; simp [g1', g2', g3, g4, g5, g6, hnn, hd, hdn, hdi, hlr, hor, lst_len, hrep, e1, intR_len, intR_getE, intR_set, intR_all, hne])
    | (refine HD3_put ?_; simp [g1', g2', g3, g4, g5, g6, hnn, hd, hdn, hdi, hlr, hor, lst_len, hrep, e1, intR_len, intR_getE, intR_set, intR_all, hne])
    | (refine HD3_chg rfl rfl ?_; simp [g1', g2', g3, g4, g5, g6, hnn, hd, hdn, hdi, hlr, hor, lst_len, hrep, e1, intR_len, intR_getE, intR_set, intR_all, hne])
    | (refine HD3_nil (hC _ _ (by kernel_rfl) (by kernel_rfl)) (hk _ ?_); clear hC hk C k; simp only [RK_seq, RK_seq_ret, RK_seq_exit, RK_blk, RK_blk_ret, RK_blk_exit, RK_loop, RK_loop_ret, RK_loop_exit, RK_done]; simp [St.ins, insL, putE, getK_setOb, getK_cons])
    | (refine V_drawE rfl (by kernel_rfl) (by kernel_rfl) (by simp [hn]) fun C k hC hk => ?_; simp [g1', g2', g3, g4, g5, g6, hnn, hd, hdn, hdi, hlr, hor, lst_len, hrep, e1, intR_len, intR_getE, intR_set, intR_all, hne])
    | (refine HD_guardU rfl (by simp [g1', g2', g3, g4, g5, g6, hnn, hd, hdn, hdi, hlr, hor, lst_len, hrep, e1, intR_len, intR_getE, intR_set, intR_all, hne]) ?_; simp [g1', g2', g3, g4, g5, g6, hnn, hd, hdn, hdi, hlr, hor, lst_len, hrep, e1, intR_len, intR_getE, intR_set, intR_all, hne])
    | (refine HD_guard rfl (by simp [g1', g2', g3, g4, g5, g6, hnn, hd, hdn, hdi, hlr, hor, lst_len, hrep, e1, intR_len, intR_getE, intR_set, intR_all, hne]) (fun hc => ?_) (fun hc => ?_) <;> (try simp [g1', g2', g3, g4, g5, g6, hnn, hd, hdn, hdi, hlr, hor, lst_len, hrep, e1, intR_len, intR_getE, intR_set, intR_all, hne] at hc) <;> (try (exfalso; omega)) <;> (try simp [g1', g2', g3, g4, g5, g6, hnn, hd, hdn, hdi, hlr, hor, lst_len, hrep, e1, intR_len, intR_getE, intR_set, intR_all, hne]))
    | (refine HD2_guardU rfl (by simp [g1', g2', g3, g4, g5, g6, hnn, hd, hdn, hdi, hlr, hor, lst_len, hrep, e1, intR_len, intR_getE, intR_set, intR_all, hne]) ?_; simp [g1', g2', g3, g4, g5, g6, hnn, hd, hdn, hdi, hlr, hor, lst_len, hrep, e1, intR_len, intR_getE, intR_set, intR_all, hne])
    | (refine HD2_guard rfl (by simp [g1', g2', g3, g4, g5, g6, hnn, hd, hdn, hdi, hlr, hor, lst_len, hrep, e1, intR_len, intR_getE, intR_set, intR_all, hne]) (fun hc => ?_) (fun hc => ?_) <;> (try simp [g1', g2', g3, g4, g5, g6, hnn, hd, hdn, hdi, hlr, hor, lst_len, hrep, e1, intR_len, intR_getE, intR_set, intR_all, hne] at hc) <;> (try (exfalso; omega)) <;> (try simp [g1', g2', g3, g4, g5, g6, hnn, hd, hdn, hdi, hlr, hor, lst_len, hrep, e1, intR_len, intR_getE, intR_set, intR_all, hne]))
    | (refine V_sblock ?_; simp [g1', g2', g3, g4, g5, g6, hnn, hd, hdn, hdi, hlr, hor, lst_len, hrep, e1, intR_len, intR_getE, intR_set, intR_all, hne])
    | (refine V_sregion ?_; simp [g1', g2', g3, g4, g5, g6, hnn, hd, hdn, hdi, hlr, hor, lst_len, hrep, e1, intR_len, intR_getE, intR_set, intR_all, hne])
    | (refine V_ret ?_; simp only [RK_seq, RK_seq_ret, RK_seq_exit, RK_blk, RK_blk_ret, RK_blk_exit, RK_loop, RK_loop_ret, RK_loop_exit, RK_done])
    | (refine V_skip ?_; simp only [RK_seq, RK_seq_ret, RK_seq_exit, RK_blk, RK_blk_ret, RK_blk_exit, RK_loop, RK_loop_ret, RK_loop_exit, RK_done])
    | (refine V_exit ?_; simp [RK_seq, RK_seq_ret, RK_seq_exit, RK_blk, RK_blk_ret, RK_blk_exit, RK_loop, RK_loop_ret, RK_loop_exit, RK_done])
    | (refine ⟨?_, by omega⟩)
    | (refine ⟨fun hc => ?_, fun hc => ?_⟩ <;> (try (exfalso; omega)))
    | (intro hc <;> (try (exfalso; omega)))
    | (refine CallV.fun_ (h0) (by first | rfl | fail) (by first | assumption | (simp; done) | fail) (by first | (simp [g1', g2', g3, g4, g5, g6, hnn, hd, hdn, hdi, hlr, hor, lst_len, hrep, e1, intR_len, intR_getE, intR_set, intR_all, hne]; done) | (simp [g1', g2', g3, g4, g5, g6, hnn, hd, hdn, hdi, hlr, hor, lst_len, hrep, e1, intR_len, intR_getE, intR_set, intR_all, hne]; rfl) | fail) (by first | (simp; done) | fail) ?_ <;> (try simp [g1', g2', g3, g4, g5, g6, hnn, hd, hdn, hdi, hlr, hor, lst_len, hrep, e1, intR_len, intR_getE, intR_set, intR_all, hne]))
    | (refine CallP.fun_ (h0) (by first | rfl | fail) (by first | assumption | (simp; done) | fail) (by first | (simp [g1', g2', g3, g4, g5, g6, hnn, hd, hdn, hdi, hlr, hor, lst_len, hrep, e1, intR_len, intR_getE, intR_set, intR_all, hne]; done) | (simp [g1', g2', g3, g4, g5, g6, hnn, hd, hdn, hdi, hlr, hor, lst_len, hrep, e1, intR_len, intR_getE, intR_set, intR_all, hne]; rfl) | fail) (by first | (simp; done) | fail) (fun d hd => ?_); subst hd; (try simp [g1', g2', g3, g4, g5, g6, hnn, hd, hdn, hdi, hlr, hor, lst_len, hrep, e1, intR_len, intR_getE, intR_set, intR_all, hne]))
    | (refine CallV.fun_ (h1) (by first | rfl | fail) (by first | assumption | (simp; done) | fail) (by first | (simp [g1', g2', g3, g4, g5, g6, hnn, hd, hdn, hdi, hlr, hor, lst_len, hrep, e1, intR_len, intR_getE, intR_set, intR_all, hne]; done) | (simp [g1', g2', g3, g4, g5, g6, hnn, hd, hdn, hdi, hlr, hor, lst_len, hrep, e1, intR_len, intR_getE, intR_set, intR_all, hne]; rfl) | fail) (by first | (simp; done) | fail) ?_ <;> (try simp [g1', g2', g3, g4, g5, g6, hnn, hd, hdn, hdi, hlr, hor, lst_len, hrep, e1, intR_len, intR_getE, intR_set, intR_all, hne]))
    | (refine CallP.fun_ (h1) (by first | rfl | fail) (by first | assumption | (simp; done) | fail) (by first | (simp [g1', g2', g3, g4, g5, g6, hnn, hd, hdn, hdi, hlr, hor, lst_len, hrep, e1, intR_len, intR_getE, intR_set, intR_all, hne]; done) | (simp [g1', g2', g3, g4, g5, g6, hnn, hd, hdn, hdi, hlr, hor, lst_len, hrep, e1, intR_len, intR_getE, intR_set, intR_all, hne]; rfl) | fail) (by first | (simp; done) | fail) (fun d hd => ?_); subst hd; (try simp [g1', g2', g3, g4, g5, g6, hnn, hd, hdn, hdi, hlr, hor, lst_len, hrep, e1, intR_len, intR_getE, intR_set, intR_all, hne]))
    | (refine CallV.fun_ (h2) (by first | rfl | fail) (by first | assumption | (simp; done) | fail) (by first | (simp [g1', g2', g3, g4, g5, g6, hnn, hd, hdn, hdi, hlr, hor, lst_len, hrep, e1, intR_len, intR_getE, intR_set, intR_all, hne]; done) | (simp [g1', g2', g3, g4, g5, g6, hnn, hd, hdn, hdi, hlr, hor, lst_len, hrep, e1, intR_len, intR_getE, intR_set, intR_all, hne]; rfl) | fail) (by first | (simp; done) | fail) ?_ <;> (try simp [g1', g2', g3, g4, g5, g6, hnn, hd, hdn, hdi, hlr, hor, lst_len, hrep, e1, intR_len, intR_getE, intR_set, intR_all, hne]))
    | (refine CallP.fun_ (h2) (by first | rfl | fail) (by first | assumption | (simp; done) | fail) (by first | (simp [g1', g2', g3, g4, g5, g6, hnn, hd, hdn, hdi, hlr, hor, lst_len, hrep, e1, intR_len, intR_getE, intR_set, intR_all, hne]; done) | (simp [g1', g2', g3, g4, g5, g6, hnn, hd, hdn, hdi, hlr, hor, lst_len, hrep, e1, intR_len, intR_getE, intR_set, intR_all, hne]; rfl) | fail) (by first | (simp; done) | fail) (fun d hd => ?_); subst hd; (try simp [g1', g2', g3, g4, g5, g6, hnn, hd, hdn, hdi, hlr, hor, lst_len, hrep, e1, intR_len, intR_getE, intR_set, intR_all, hne]))
    | (refine CallV.fun_ (h31) (by first | rfl | fail) (by first | assumption | (simp; done) | fail) (by first | (simp [g1', g2', g3, g4, g5, g6, hnn, hd, hdn, hdi, hlr, hor, lst_len, hrep, e1, intR_len, intR_getE, intR_set, intR_all, hne]; done) | (simp [g1', g2', g3, g4, g5, g6, hnn, hd, hdn, hdi, hlr, hor, lst_len, hrep, e1, intR_len, intR_getE, intR_set, intR_all, hne]; rfl) | fail) (by first | (simp; done) | fail) ?_ <;> (try simp [g1', g2', g3, g4, g5, g6, hnn, hd, hdn, hdi, hlr, hor, lst_len, hrep, e1, intR_len, intR_getE, intR_set, intR_all, hne]))
    | (refine CallP.fun_ (h31) (by first | rfl | fail) (by first | assumption | (simp; done) | fail) (by first | (simp [g1', g2', g3, g4, g5, g6, hnn, hd, hdn, hdi, hlr, hor, lst_len, hrep, e1, intR_len, intR_getE, intR_set, intR_all, hne]; done) | (simp [g1', g2', g3, g4, g5, g6, hnn, hd, hdn, hdi, hlr, hor, lst_len, hrep, e1, intR_len, intR_getE, intR_set, intR_all, hne]; rfl) | fail) (by first | (simp; done) | fail) (fun d hd => ?_); subst hd; (try simp [g1', g2', g3, g4, g5, g6, hnn, hd, hdn, hdi, hlr, hor, lst_len, hrep, e1, intR_len, intR_getE, intR_set, intR_all, hne]))
    | (refine CallV.fun_ (h32) (by first | rfl | fail) (by first | assumption | (simp; done) | fail) (by first | (simp [g1', g2', g3, g4, g5, g6, hnn, hd, hdn, hdi, hlr, hor, lst_len, hrep, e1, intR_len, intR_getE, intR_set, intR_all, hne]; done) | (simp [g1', g2', g3, g4, g5, g6, hnn, hd, hdn, hdi, hlr, hor, lst_len, hrep, e1, intR_len, intR_getE, intR_set, intR_all, hne]; rfl) | fail) (by first | (simp; done) | fail) ?_ <;> (try simp [g1', g2', g3, g4, g5, g6, hnn, hd, hdn, hdi, hlr, hor, lst_len, hrep, e1, intR_len, intR_getE, intR_set, intR_all, hne]))
    | (refine CallP.fun_ (h32) (by first | rfl | fail) (by first | assumption | (simp; done) | fail) (by first | (simp [g1', g2', g3, g4, g5, g6, hnn, hd, hdn, hdi, hlr, hor, lst_len, hrep, e1, intR_len, intR_getE, intR_set, intR_all, hne]; done) | (simp [g1', g2', g3, g4, g5, g6, hnn, hd, hdn, hdi, hlr, hor, lst_len, hrep, e1, intR_len, intR_getE, intR_set, intR_all, hne]; rfl) | fail) (by first | (simp; done) | fail) (fun d hd => ?_); subst hd; (try simp [g1', g2', g3, g4, g5, g6, hnn, hd, hdn, hdi, hlr, hor, lst_len, hrep, e1, intR_len, intR_getE, intR_set, intR_all, hne]))
    | (refine CallV.fun_ (h41) (by first | rfl | fail) (by first | assumption | (simp; done) | fail) (by first | (simp [g1', g2', g3, g4, g5, g6, hnn, hd, hdn, hdi, hlr, hor, lst_len, hrep, e1, intR_len, intR_getE, intR_set, intR_all, hne]; done) | (simp [g1', g2', g3, g4, g5, g6, hnn, hd, hdn, hdi, hlr, hor, lst_len, hrep, e1, intR_len, intR_getE, intR_set, intR_all, hne]; rfl) | fail) (by first | (simp; done) | fail) ?_ <;> (try simp [g1', g2', g3, g4, g5, g6, hnn, hd, hdn, hdi, hlr, hor, lst_len, hrep, e1, intR_len, intR_getE, intR_set, intR_all, hne]))
    | (refine CallP.fun_ (h41) (by first | rfl | fail) (by first | assumption | (simp; done) | fail) (by first | (simp [g1', g2', g3, g4, g5, g6, hnn, hd, hdn, hdi, hlr, hor, lst_len, hrep, e1, intR_len, intR_getE, intR_set, intR_all, hne]; done) | (simp [g1', g2', g3, g4, g5, g6, hnn, hd, hdn, hdi, hlr, hor, lst_len, hrep, e1, intR_len, intR_getE, intR_set, intR_all, hne]; rfl) | fail) (by first | (simp; done) | fail) (fun d hd => ?_); subst hd; (try simp [g1', g2', g3, g4, g5, g6, hnn, hd, hdn, hdi, hlr, hor, lst_len, hrep, e1, intR_len, intR_getE, intR_set, intR_all, hne]))
    | (refine CallV.fun_ (h42) (by first | rfl | fail) (by first | assumption | (simp; done) | fail) (by first | (simp [g1', g2', g3, g4, g5, g6, hnn, hd, hdn, hdi, hlr, hor, lst_len, hrep, e1, intR_len, intR_getE, intR_set, intR_all, hne]; done) | (simp [g1', g2', g3, g4, g5, g6, hnn, hd, hdn, hdi, hlr, hor, lst_len, hrep, e1, intR_len, intR_getE, intR_set, intR_all, hne]; rfl) | fail) (by first | (simp; done) | fail) ?_ <;> (try simp [g1', g2', g3, g4, g5, g6, hnn, hd, hdn, hdi, hlr, hor, lst_len, hrep, e1, intR_len, intR_getE, intR_set, intR_all, hne]))
    | (refine CallP.fun_ (h42) (by first | rfl | fail) (by first | assumption | (simp; done) | fail) (by first | (simp [g1', g2', g3, g4, g5, g6, hnn, hd, hdn, hdi, hlr, hor, lst_len, hrep, e1, intR_len, intR_getE, intR_set, intR_all, hne]; done) | (simp [g1', g2', g3, g4, g5, g6, hnn, hd, hdn, hdi, hlr, hor, lst_len, hrep, e1, intR_len, intR_getE, intR_set, intR_all, hne]; rfl) | fail) (by first | (simp; done) | fail) (fun d hd => ?_); subst hd; (try simp [g1', g2', g3, g4, g5, g6, hnn, hd, hdn, hdi, hlr, hor, lst_len, hrep, e1, intR_len, intR_getE, intR_set, intR_all, hne])))
    refine V_loopO (α := { i : Nat // i ≤ n }) [0, 1, 2, 5, 13, 14, 15, 16, 18, 19, 21, 22] (fun i => [(24, .u (.int .i64 i.1))]) (fun _ => []) 0 (fun i => n - i.1) ⟨0, by omega⟩ ?_ ?_
    · exact (Wk.cut rfl (by simp [hn, St.lp]) (by simp [wkO, St.lp, getK_cons, getK, Ob.under, D.under, under_rowsD, under_entD, del, intR, Function.comp_def]) (by simp [wkU, St.lp, keepE, getK_cons, getK, D.under, del, intR, Function.comp_def]) (by simp [wkE, St.lp, keepE, getK_cons, getK, del, intR, Function.comp_def] <;> (try (intros; simp_all; done)) <;> (try (intros; omega)) <;> (try grind)))
    rintro ⟨i, hi⟩
    simp [St.lp, St.only, keepE, getK_cons, getK]
    by_cases hil : i < n
    · have r1 := matL_get (paidAt n B (one d debt) Me) hil
      have r2 := matL_get (paidAt n B (one d (debt + more)) Me) hil
      have r3 : ¬ paidAt n B (one d (debt + more)) Me i d < paidAt n B (one d debt) Me i d := Int.not_lt.2 (p1 i)
      repeat' (first
    | (refine H_cons ?_; simp [hil, hdn, lst_len, lst_getE, r1, r2, r3])
    | (refine HD2_val rfl ?_; simp [hil, hdn, lst_len, lst_getE, r1, r2, r3])
    | (refine HD_cons ?_; simp [hil, hdn, lst_len, lst_getE, r1, r2, r3])
    | (refine HD2_chg rfl ?_; simp [hil, hdn, lst_len, lst_getE, r1, r2, r3])
    | (refine H_nil ?_; simp [hil, hdn, lst_len, lst_getE, r1, r2, r3])
    | (refine ⟨by omega, ?_⟩)
    | (refine V_sseq ?_; simp [hil, hdn, lst_len, lst_getE, r1, r2, r3])
    | (refine V_scond ?_; simp [hil, hdn, lst_len, lst_getE, r1, r2, r3])
    | (refine HD2_nil (hC _ (by kernel_rfl)) (hk _ ?_); clear hC hk C k; simp only [RK_seq, RK_seq_ret, RK_seq_exit, RK_blk, RK_blk_ret, RK_blk_exit, RK_loop, RK_loop_ret, RK_loop_exit, RK_done])
    | (refine HD_nil ?_)
    | (refine hk _ ?_; clear hk k; simp only [RK_seq, RK_seq_ret, RK_seq_exit, RK_blk, RK_blk_ret, RK_blk_exit, RK_loop, RK_loop_ret, RK_loop_exit, RK_done])
    | (refine V_drawV rfl (by kernel_rfl) (by kernel_rfl) fun k hk => ?_; simp [hil, hdn, lst_len, lst_getE, r1, r2, r3])
    | (refine V_drawN rfl (by kernel_rfl) (by kernel_rfl) (by simp [hn]) fun C k hC hk => ?_; simp [hil, hdn, lst_len, lst_getE, r1, r2, r3])
    | (refine HD3_val rfl ?_; simp [hil, hdn, lst_len, lst_getE, r1, r2, r3])
    | (refine HD3_put ?_; simp [hil, hdn, lst_len, lst_getE, r1, r2, r3])
    | (refine HD3_chg rfl rfl ?_; simp [hil, hdn, lst_len, lst_getE, r1, r2, r3])
    | (refine HD3_nil (hC _ _ (by kernel_rfl) (by kernel_rfl)) (hk _ ?_); clear hC hk C k; simp only [RK_seq, RK_seq_ret, RK_seq_exit, RK_blk, RK_blk_ret, RK_blk_exit, RK_loop, RK_loop_ret, RK_loop_exit, RK_done]; simp [St.ins, insL, putE, getK_setOb, getK_cons])
    | (refine V_drawE rfl (by kernel_rfl) (by kernel_rfl) (by simp [hn]) fun C k hC hk => ?_; simp [hil, hdn, lst_len, lst_getE, r1, r2, r3])
    | (refine HD_guardU rfl (by simp [hil, hdn, lst_len, lst_getE, r1, r2, r3]) ?_; simp [hil, hdn, lst_len, lst_getE, r1, r2, r3])
    | (refine HD_guard rfl (by simp [hil, hdn, lst_len, lst_getE, r1, r2, r3]) (fun hc => ?_) (fun hc => ?_) <;> (try simp [hil, hdn, lst_len, lst_getE, r1, r2, r3] at hc) <;> (try (exfalso; omega)) <;> (try simp [hil, hdn, lst_len, lst_getE, r1, r2, r3]))
    | (refine HD2_guardU rfl (by simp [hil, hdn, lst_len, lst_getE, r1, r2, r3]) ?_; simp [hil, hdn, lst_len, lst_getE, r1, r2, r3])
    | (refine HD2_guard rfl (by simp [hil, hdn, lst_len, lst_getE, r1, r2, r3]) (fun hc => ?_) (fun hc => ?_) <;> (try simp [hil, hdn, lst_len, lst_getE, r1, r2, r3] at hc) <;> (try (exfalso; omega)) <;> (try simp [hil, hdn, lst_len, lst_getE, r1, r2, r3]))
    | (refine V_sblock ?_; simp [hil, hdn, lst_len, lst_getE, r1, r2, r3])
    | (refine V_sregion ?_; simp [hil, hdn, lst_len, lst_getE, r1, r2, r3])
    | (refine V_ret ?_; simp only [RK_seq, RK_seq_ret, RK_seq_exit, RK_blk, RK_blk_ret, RK_blk_exit, RK_loop, RK_loop_ret, RK_loop_exit, RK_done])
    | (refine V_skip ?_; simp only [RK_seq, RK_seq_ret, RK_seq_exit, RK_blk, RK_blk_ret, RK_blk_exit, RK_loop, RK_loop_ret, RK_loop_exit, RK_done])
    | (refine V_exit ?_; simp [RK_seq, RK_seq_ret, RK_seq_exit, RK_blk, RK_blk_ret, RK_blk_exit, RK_loop, RK_loop_ret, RK_loop_exit, RK_done])
    | (refine ⟨?_, by omega⟩)
    | (refine ⟨fun hc => ?_, fun hc => ?_⟩ <;> (try (exfalso; omega)))
    | (intro hc <;> (try (exfalso; omega))))
      refine LoopW.next ⟨i + 1, by omega⟩ (by simp; omega) ?_
      exact (Wk.cut rfl (by simp [hn, St.lp]) (by simp [wkO, St.lp, getK_cons, getK, Ob.under, D.under, under_rowsD, under_entD]) (by simp [wkU, St.lp, keepE, getK_cons, getK, D.under]) (by simp [wkE, St.lp, keepE, getK_cons, getK] <;> (try (intros; simp_all; done)) <;> (try (intros; omega)) <;> (try grind)))
    obtain rfl : i = n := by omega
    have hge : ¬ i < i := by omega
    repeat' (first
    | (refine H_cons ?_; simp [hge])
    | (refine HD2_val rfl ?_; simp [hge])
    | (refine HD_cons ?_; simp [hge])
    | (refine HD2_chg rfl ?_; simp [hge])
    | (refine H_nil ?_; simp [hge])
    | (refine ⟨by omega, ?_⟩)
    | (refine V_sseq ?_; simp [hge])
    | (refine V_scond ?_; simp [hge])
    | (refine HD2_nil (hC _ (by kernel_rfl)) (hk _ ?_); clear hC hk C k; simp only [RK_seq, RK_seq_ret, RK_seq_exit, RK_blk, RK_blk_ret, RK_blk_exit, RK_loop, RK_loop_ret, RK_loop_exit, RK_done])
    | (refine HD_nil ?_)
    | (refine hk _ ?_; clear hk k; simp only [RK_seq, RK_seq_ret, RK_seq_exit, RK_blk, RK_blk_ret, RK_blk_exit, RK_loop, RK_loop_ret, RK_loop_exit, RK_done])
    | (refine V_drawV rfl (by kernel_rfl) (by kernel_rfl) fun k hk => ?_; simp [hge])
    | (refine V_drawN rfl (by kernel_rfl) (by kernel_rfl) (by simp [hn]) fun C k hC hk => ?_; simp [hge])
    | (refine HD3_val rfl ?_; simp [hge])
    | (refine HD3_put ?_; simp [hge])
    | (refine HD3_chg rfl rfl ?_; simp [hge])
    | (refine HD3_nil (hC _ _ (by kernel_rfl) (by kernel_rfl)) (hk _ ?_); clear hC hk C k; simp only [RK_seq, RK_seq_ret, RK_seq_exit, RK_blk, RK_blk_ret, RK_blk_exit, RK_loop, RK_loop_ret, RK_loop_exit, RK_done]; simp [St.ins, insL, putE, getK_setOb, getK_cons])
    | (refine V_drawE rfl (by kernel_rfl) (by kernel_rfl) (by simp [hn]) fun C k hC hk => ?_; simp [hge])
    | (refine HD_guardU rfl (by simp [hge]) ?_; simp [hge])
    | (refine HD_guard rfl (by simp [hge]) (fun hc => ?_) (fun hc => ?_) <;> (try simp [hge] at hc) <;> (try (exfalso; omega)) <;> (try simp [hge]))
    | (refine HD2_guardU rfl (by simp [hge]) ?_; simp [hge])
    | (refine HD2_guard rfl (by simp [hge]) (fun hc => ?_) (fun hc => ?_) <;> (try simp [hge] at hc) <;> (try (exfalso; omega)) <;> (try simp [hge]))
    | (refine V_sblock ?_; simp [hge])
    | (refine V_sregion ?_; simp [hge])
    | (refine V_ret ?_; simp only [RK_seq, RK_seq_ret, RK_seq_exit, RK_blk, RK_blk_ret, RK_blk_exit, RK_loop, RK_loop_ret, RK_loop_exit, RK_done])
    | (refine V_skip ?_; simp only [RK_seq, RK_seq_ret, RK_seq_exit, RK_blk, RK_blk_ret, RK_blk_exit, RK_loop, RK_loop_ret, RK_loop_exit, RK_done])
    | (refine V_exit ?_; simp [RK_seq, RK_seq_ret, RK_seq_exit, RK_blk, RK_blk_ret, RK_blk_exit, RK_loop, RK_loop_ret, RK_loop_exit, RK_done])
    | (refine ⟨?_, by omega⟩)
    | (refine ⟨fun hc => ?_, fun hc => ?_⟩ <;> (try (exfalso; omega)))
    | (intro hc <;> (try (exfalso; omega)))
    | (refine CallV.fun_ (h6) (by first | rfl | fail) (by first | assumption | (simp; done) | fail) (by first | (simp [hge]; done) | (simp [hge]; rfl) | fail) (by first | (simp; done) | fail) ?_ <;> (try simp [hge]))
    | (refine CallP.fun_ (h6) (by first | rfl | fail) (by first | assumption | (simp; done) | fail) (by first | (simp [hge]; done) | (simp [hge]; rfl) | fail) (by first | (simp; done) | fail) (fun d hd => ?_); subst hd; (try simp [hge])))
    refine V_loopF (α := { j : Nat // j ≤ i }) [0, 1, 2, 5, 13, 14, 15, 16, 19, 22, 25] (fun j => [(26, .u (.int .i64 (lst j.1 (capOf i B d Me)).sum)), (27, .u (.int .i64 j.1))]) (fun j => i - j.1) ⟨0, by omega⟩ ?_ ?_
    · exact (Wk.cut rfl (by simp [hn, St.lp]) (by simp [wkO, St.lp, getK_cons, getK, Ob.under, D.under, under_rowsD, under_entD, lst]) (by simp [wkU, St.lp, keepE, getK_cons, getK, D.under, lst]) (by simp [wkE, St.lp, keepE, getK_cons, getK, lst] <;> (try (intros; simp_all; done)) <;> (try (intros; omega)) <;> (try grind)))
    rintro ⟨j, hj⟩
    simp [St.lp, St.only, keepE, getK_cons, getK]
    by_cases hjl : j < i
    · have hij := hin j
      have hs2 : (lst (j + 1) (capOf i B d Me)).sum = (lst j (capOf i B d Me)).sum + capOf i B d Me j := by rw [lst_snoc]; simp
      have hs0 := hsc j hj
      have hmj := hme j hjl
      simp only [maxC] at hmj
      by_cases c : lvOf i B d j < 0
      · have c' : ¬ 0 ≤ lvOf i B d j := by omega
        rw [show capOf i B d Me j = 0 from if_pos c, Int.add_zero] at hs2
        repeat' (first
    | (refine H_cons ?_; simp [hjl, c, c'])
    | (refine HD2_val rfl ?_; simp [hjl, c, c'])
    | (refine HD_cons ?_; simp [hjl, c, c'])
    | (refine HD2_chg rfl ?_; simp [hjl, c, c'])
    | (refine H_nil ?_; simp [hjl, c, c'])
    | (refine ⟨by omega, ?_⟩)
    | (refine V_sseq ?_; simp [hjl, c, c'])
    | (refine V_scond ?_; simp [hjl, c, c'])
    | (refine HD2_nil (hC _ (by kernel_rfl)) (hk _ ?_); clear hC hk C k; simp only [RK_seq, RK_seq_ret, RK_seq_exit, RK_blk, RK_blk_ret, RK_blk_exit, RK_loop, RK_loop_ret, RK_loop_exit, RK_done])
    | (refine HD_nil ?_)
    | (refine hk _ ?_; clear hk k; simp only [RK_seq, RK_seq_ret, RK_seq_exit, RK_blk, RK_blk_ret, RK_blk_exit, RK_loop, RK_loop_ret, RK_loop_exit, RK_done])
    | (refine V_drawV rfl (by kernel_rfl) (by kernel_rfl) fun k hk => ?_; simp [hjl, c, c'])
    | (refine V_drawN rfl (by kernel_rfl) (by kernel_rfl) (by simp [hn]) fun C k hC hk => ?_; simp [hjl, c, c'])
    | (refine HD3_val rfl ?_; simp [hjl, c, c'])
    | (refine HD3_put ?_; simp [hjl, c, c'])
    | (refine HD3_chg rfl rfl ?_; simp [hjl, c, c'])
    | (refine HD3_nil (hC _ _ (by kernel_rfl) (by kernel_rfl)) (hk _ ?_); clear hC hk C k; simp only [RK_seq, RK_seq_ret, RK_seq_exit, RK_blk, RK_blk_ret, RK_blk_exit, RK_loop, RK_loop_ret, RK_loop_exit, RK_done]; simp [St.ins, insL, putE, getK_setOb, getK_cons])
    | (refine V_drawE rfl (by kernel_rfl) (by kernel_rfl) (by simp [hn]) fun C k hC hk => ?_; simp [hjl, c, c'])
    | (refine HD_guardU rfl (by simp [hjl, c, c']) ?_; simp [hjl, c, c'])
    | (refine HD_guard rfl (by simp [hjl, c, c']) (fun hc => ?_) (fun hc => ?_) <;> (try simp [hjl, c, c'] at hc) <;> (try (exfalso; omega)) <;> (try simp [hjl, c, c']))
    | (refine HD2_guardU rfl (by simp [hjl, c, c']) ?_; simp [hjl, c, c'])
    | (refine HD2_guard rfl (by simp [hjl, c, c']) (fun hc => ?_) (fun hc => ?_) <;> (try simp [hjl, c, c'] at hc) <;> (try (exfalso; omega)) <;> (try simp [hjl, c, c']))
    | (refine V_sblock ?_; simp [hjl, c, c'])
    | (refine V_sregion ?_; simp [hjl, c, c'])
    | (refine V_ret ?_; simp only [RK_seq, RK_seq_ret, RK_seq_exit, RK_blk, RK_blk_ret, RK_blk_exit, RK_loop, RK_loop_ret, RK_loop_exit, RK_done])
    | (refine V_skip ?_; simp only [RK_seq, RK_seq_ret, RK_seq_exit, RK_blk, RK_blk_ret, RK_blk_exit, RK_loop, RK_loop_ret, RK_loop_exit, RK_done])
    | (refine V_exit ?_; simp [RK_seq, RK_seq_ret, RK_seq_exit, RK_blk, RK_blk_ret, RK_blk_exit, RK_loop, RK_loop_ret, RK_loop_exit, RK_done])
    | (refine ⟨?_, by omega⟩)
    | (refine ⟨fun hc => ?_, fun hc => ?_⟩ <;> (try (exfalso; omega)))
    | (intro hc <;> (try (exfalso; omega)))
    | (refine CallV.fun_ (hij) (by first | rfl | fail) (by first | assumption | (simp; done) | fail) (by first | (simp [hjl, c, c']; done) | (simp [hjl, c, c']; rfl) | fail) (by first | (simp; done) | fail) ?_ <;> (try simp [hjl, c, c']))
    | (refine CallP.fun_ (hij) (by first | rfl | fail) (by first | assumption | (simp; done) | fail) (by first | (simp [hjl, c, c']; done) | (simp [hjl, c, c']; rfl) | fail) (by first | (simp; done) | fail) (fun d hd => ?_); subst hd; (try simp [hjl, c, c'])))
        refine LoopW.next ⟨j + 1, by omega⟩ (by simp; omega) ?_
        exact (Wk.cut rfl (by simp [hn, St.lp]) (by simp [wkO, St.lp, getK_cons, getK, Ob.under, D.under, under_rowsD, under_entD, hs2]) (by simp [wkU, St.lp, keepE, getK_cons, getK, D.under, hs2]) (by simp [wkE, St.lp, keepE, getK_cons, getK, hs2] <;> (try (intros; simp_all; done)) <;> (try (intros; omega)) <;> (try grind)))
      · have c' : 0 ≤ lvOf i B d j := by omega
        rw [show capOf i B d Me j = Me j from if_neg c] at hs2
        repeat' (first
    | (refine H_cons ?_; simp [hjl, c, c', hgE, hne])
    | (refine HD2_val rfl ?_; simp [hjl, c, c', hgE, hne])
    | (refine HD_cons ?_; simp [hjl, c, c', hgE, hne])
    | (refine HD2_chg rfl ?_; simp [hjl, c, c', hgE, hne])
    | (refine H_nil ?_; simp [hjl, c, c', hgE, hne])
    | (refine ⟨by omega, ?_⟩)
    | (refine V_sseq ?_; simp [hjl, c, c', hgE, hne])
    | (refine V_scond ?_; simp [hjl, c, c', hgE, hne])
    | (refine HD2_nil (hC _ (by kernel_rfl)) (hk _ ?_); clear hC hk C k; simp only [RK_seq, RK_seq_ret, RK_seq_exit, RK_blk, RK_blk_ret, RK_blk_exit, RK_loop, RK_loop_ret, RK_loop_exit, RK_done])
    | (refine HD_nil ?_)
    | (refine hk _ ?_; clear hk k; simp only [RK_seq, RK_seq_ret, RK_seq_exit, RK_blk, RK_blk_ret, RK_blk_exit, RK_loop, RK_loop_ret, RK_loop_exit, RK_done])
    | (refine V_drawV rfl (by kernel_rfl) (by kernel_rfl) fun k hk => ?_; simp [hjl, c, c', hgE, hne])
    | (refine V_drawN rfl (by kernel_rfl) (by kernel_rfl) (by simp [hn]) fun C k hC hk => ?_; simp [hjl, c, c', hgE, hne])
    | (refine HD3_val rfl ?_; simp [hjl, c, c', hgE, hne])
    | (refine HD3_put ?_; simp [hjl, c, c', hgE, hne])
    | (refine HD3_chg rfl rfl ?_; simp [hjl, c, c', hgE, hne])
    | (refine HD3_nil (hC _ _ (by kernel_rfl) (by kernel_rfl)) (hk _ ?_); clear hC hk C k; simp only [RK_seq, RK_seq_ret, RK_seq_exit, RK_blk, RK_blk_ret, RK_blk_exit, RK_loop, RK_loop_ret, RK_loop_exit, RK_done]; simp [St.ins, insL, putE, getK_setOb, getK_cons])
    | (refine V_drawE rfl (by kernel_rfl) (by kernel_rfl) (by simp [hn]) fun C k hC hk => ?_; simp [hjl, c, c', hgE, hne])
    | (refine HD_guardU rfl (by simp [hjl, c, c', hgE, hne]) ?_; simp [hjl, c, c', hgE, hne])
    | (refine HD_guard rfl (by simp [hjl, c, c', hgE, hne]) (fun hc => ?_) (fun hc => ?_) <;> (try simp [hjl, c, c', hgE, hne] at hc) <;> (try (exfalso; omega)) <;> (try simp [hjl, c, c', hgE, hne]))
    | (refine HD2_guardU rfl (by simp [hjl, c, c', hgE, hne]) ?_; simp [hjl, c, c', hgE, hne])
    | (refine HD2_guard rfl (by simp [hjl, c, c', hgE, hne]) (fun hc => ?_) (fun hc => ?_) <;> (try simp [hjl, c, c', hgE, hne] at hc) <;> (try (exfalso; omega)) <;> (try simp [hjl, c, c', hgE, hne]))
    | (refine V_sblock ?_; simp [hjl, c, c', hgE, hne])
    | (refine V_sregion ?_; simp [hjl, c, c', hgE, hne])
    | (refine V_ret ?_; simp only [RK_seq, RK_seq_ret, RK_seq_exit, RK_blk, RK_blk_ret, RK_blk_exit, RK_loop, RK_loop_ret, RK_loop_exit, RK_done])
    | (refine V_skip ?_; simp only [RK_seq, RK_seq_ret, RK_seq_exit, RK_blk, RK_blk_ret, RK_blk_exit, RK_loop, RK_loop_ret, RK_loop_exit, RK_done])
    | (refine V_exit ?_; simp [RK_seq, RK_seq_ret, RK_seq_exit, RK_blk, RK_blk_ret, RK_blk_exit, RK_loop, RK_loop_ret, RK_loop_exit, RK_done])
    | (refine ⟨?_, by omega⟩)
    | (refine ⟨fun hc => ?_, fun hc => ?_⟩ <;> (try (exfalso; omega)))
    | (intro hc <;> (try (exfalso; omega)))
    | (refine CallV.fun_ (hij) (by first | rfl | fail) (by first | assumption | (simp; done) | fail) (by first | (simp [hjl, c, c', hgE, hne]; done) | (simp [hjl, c, c', hgE, hne]; rfl) | fail) (by first | (simp; done) | fail) ?_ <;> (try simp [hjl, c, c', hgE, hne]))
    | (refine CallP.fun_ (hij) (by first | rfl | fail) (by first | assumption | (simp; done) | fail) (by first | (simp [hjl, c, c', hgE, hne]; done) | (simp [hjl, c, c', hgE, hne]; rfl) | fail) (by first | (simp; done) | fail) (fun d hd => ?_); subst hd; (try simp [hjl, c, c', hgE, hne])))
        refine LoopW.next ⟨j + 1, by omega⟩ (by simp; omega) ?_
        exact (Wk.cut rfl (by simp [hn, St.lp]) (by simp [wkO, St.lp, getK_cons, getK, Ob.under, D.under, under_rowsD, under_entD, hs2]) (by simp [wkU, St.lp, keepE, getK_cons, getK, D.under, hs2]) (by simp [wkE, St.lp, keepE, getK_cons, getK, hs2] <;> (try (intros; simp_all; done)) <;> (try (intros; omega)) <;> (try grind)))
    obtain rfl : j = i := by omega
    have hge : ¬ j < j := by omega
    have hsj := hsc j (Nat.le_refl _)
    have hik := hin k
    generalize (lst j (capOf j B d Me)).sum = S at p4 hsj
    have p4' := p4.symm
    have hjm : (j : Int) * 8 ≤ 140737488355328 := by omega
    have p5' : 0 ≤ lvOf j B d k → leftAt j B (one d debt) GM d = 0 := fun h => p5 (by omega)
    by_cases c : lvOf j B d k < 0
    · repeat' (first
    | (refine H_cons ?_; simp [hge, hk, hkn, hlr, hor, lst_len, lst_getE, intR_len, intR_getE, intR_set, intR_all, hne, intR_rows, hlg, c, hdn, p2, p3, p4', hjm])
    | (refine HD2_val rfl ?_; simp [hge, hk, hkn, hlr, hor, lst_len, lst_getE, intR_len, intR_getE, intR_set, intR_all, hne, intR_rows, hlg, c, hdn, p2, p3, p4', hjm])
    | (refine HD_cons ?_; simp [hge, hk, hkn, hlr, hor, lst_len, lst_getE, intR_len, intR_getE, intR_set, intR_all, hne, intR_rows, hlg, c, hdn, p2, p3, p4', hjm])
    | (refine HD2_chg rfl ?_; simp [hge, hk, hkn, hlr, hor, lst_len, lst_getE, intR_len, intR_getE, intR_set, intR_all, hne, intR_rows, hlg, c, hdn, p2, p3, p4', hjm])
    | (refine H_nil ?_; simp [hge, hk, hkn, hlr, hor, lst_len, lst_getE, intR_len, intR_getE, intR_set, intR_all, hne, intR_rows, hlg, c, hdn, p2, p3, p4', hjm])
    | (refine ⟨by omega, ?_⟩)
    | (refine V_sseq ?_; simp [hge, hk, hkn, hlr, hor, lst_len, lst_getE, intR_len, intR_getE, intR_set, intR_all, hne, intR_rows, hlg, c, hdn, p2, p3, p4', hjm])
    | (refine V_scond ?_; simp [hge, hk, hkn, hlr, hor, lst_len, lst_getE, intR_len, intR_getE, intR_set, intR_all, hne, intR_rows, hlg, c, hdn, p2, p3, p4', hjm])
    | (refine HD2_nil (hC _ (by kernel_rfl)) (hk _ ?_); clear hC hk C k; simp only [RK_seq, RK_seq_ret, RK_seq_exit, RK_blk, RK_blk_ret, RK_blk_exit, RK_loop, RK_loop_ret, RK_loop_exit, RK_done])
    | (refine HD_nil ?_)
    | (refine hk _ ?_; clear hk k; simp only [RK_seq, RK_seq_ret, RK_seq_exit, RK_blk, RK_blk_ret, RK_blk_exit, RK_loop, RK_loop_ret, RK_loop_exit, RK_done])
    | (refine V_drawV rfl (by kernel_rfl) (by kernel_rfl) fun k hk => ?_; simp [hge, hk, hkn, hlr, hor, lst_len, lst_getE, intR_len, intR_getE, intR_set, intR_all, hne, intR_rows, hlg, c, hdn, p2, p3, p4', hjm])
    | (refine V_drawN rfl (by kernel_rfl) (by kernel_rfl) (by simp [hn]) fun C k hC hk => ?_; simp [hge, hk, hkn, hlr, hor, lst_len, lst_getE, intR_len, intR_getE, intR_set, intR_all, hne, intR_rows, hlg, c, hdn, p2, p3, p4', hjm])
    | (refine HD3_val rfl ?_; simp [hge, hk, hkn, hlr, hor, lst_len, lst_getE, intR_len, intR_getE, intR_set, intR_all, hne, intR_rows, hlg, c, hdn, p2, p3, p4', hjm])
    | (refine HD3_put ?_; simp [hge, hk, hkn, hlr, hor, lst_len, lst_getE, intR_len, intR_getE, intR_set, intR_all, hne, intR_rows, hlg, c, hdn, p2, p3, p4', hjm])
    | (refine HD3_chg rfl rfl ?_; simp [hge, hk, hkn, hlr, hor, lst_len, lst_getE, intR_len, intR_getE, intR_set, intR_all, hne, intR_rows, hlg, c, hdn, p2, p3, p4', hjm])
    | (refine HD3_nil (hC _ _ (by kernel_rfl) (by kernel_rfl)) (hk _ ?_); clear hC hk C k; simp only [RK_seq, RK_seq_ret, RK_seq_exit, RK_blk, RK_blk_ret, RK_blk_exit, RK_loop, RK_loop_ret, RK_loop_exit, RK_done]; simp [St.ins, insL, putE, getK_setOb, getK_cons])
    | (refine V_drawE rfl (by kernel_rfl) (by kernel_rfl) (by simp [hn]) fun C k hC hk => ?_; simp [hge, hk, hkn, hlr, hor, lst_len, lst_getE, intR_len, intR_getE, intR_set, intR_all, hne, intR_rows, hlg, c, hdn, p2, p3, p4', hjm])
    | (refine HD_guardU rfl (by simp [hge, hk, hkn, hlr, hor, lst_len, lst_getE, intR_len, intR_getE, intR_set, intR_all, hne, intR_rows, hlg, c, hdn, p2, p3, p4', hjm]) ?_; simp [hge, hk, hkn, hlr, hor, lst_len, lst_getE, intR_len, intR_getE, intR_set, intR_all, hne, intR_rows, hlg, c, hdn, p2, p3, p4', hjm])
    | (refine HD_guard rfl (by simp [hge, hk, hkn, hlr, hor, lst_len, lst_getE, intR_len, intR_getE, intR_set, intR_all, hne, intR_rows, hlg, c, hdn, p2, p3, p4', hjm]) (fun hc => ?_) (fun hc => ?_) <;> (try simp [hge, hk, hkn, hlr, hor, lst_len, lst_getE, intR_len, intR_getE, intR_set, intR_all, hne, intR_rows, hlg, c, hdn, p2, p3, p4', hjm] at hc) <;> (try (exfalso; omega)) <;> (try simp [hge, hk, hkn, hlr, hor, lst_len, lst_getE, intR_len, intR_getE, intR_set, intR_all, hne, intR_rows, hlg, c, hdn, p2, p3, p4', hjm]))
    | (refine HD2_guardU rfl (by simp [hge, hk, hkn, hlr, hor, lst_len, lst_getE, intR_len, intR_getE, intR_set, intR_all, hne, intR_rows, hlg, c, hdn, p2, p3, p4', hjm]) ?_; simp [hge, hk, hkn, hlr, hor, lst_len, lst_getE, intR_len, intR_getE, intR_set, intR_all, hne, intR_rows, hlg, c, hdn, p2, p3, p4', hjm])
    | (refine HD2_guard rfl (by simp [hge, hk, hkn, hlr, hor, lst_len, lst_getE, intR_len, intR_getE, intR_set, intR_all, hne, intR_rows, hlg, c, hdn, p2, p3, p4', hjm]) (fun hc => ?_) (fun hc => ?_) <;> (try simp [hge, hk, hkn, hlr, hor, lst_len, lst_getE, intR_len, intR_getE, intR_set, intR_all, hne, intR_rows, hlg, c, hdn, p2, p3, p4', hjm] at hc) <;> (try (exfalso; omega)) <;> (try simp [hge, hk, hkn, hlr, hor, lst_len, lst_getE, intR_len, intR_getE, intR_set, intR_all, hne, intR_rows, hlg, c, hdn, p2, p3, p4', hjm]))
    | (refine V_sblock ?_; simp [hge, hk, hkn, hlr, hor, lst_len, lst_getE, intR_len, intR_getE, intR_set, intR_all, hne, intR_rows, hlg, c, hdn, p2, p3, p4', hjm])
    | (refine V_sregion ?_; simp [hge, hk, hkn, hlr, hor, lst_len, lst_getE, intR_len, intR_getE, intR_set, intR_all, hne, intR_rows, hlg, c, hdn, p2, p3, p4', hjm])
    | (refine V_ret ?_; simp only [RK_seq, RK_seq_ret, RK_seq_exit, RK_blk, RK_blk_ret, RK_blk_exit, RK_loop, RK_loop_ret, RK_loop_exit, RK_done])
    | (refine V_skip ?_; simp only [RK_seq, RK_seq_ret, RK_seq_exit, RK_blk, RK_blk_ret, RK_blk_exit, RK_loop, RK_loop_ret, RK_loop_exit, RK_done])
    | (refine V_exit ?_; simp [RK_seq, RK_seq_ret, RK_seq_exit, RK_blk, RK_blk_ret, RK_blk_exit, RK_loop, RK_loop_ret, RK_loop_exit, RK_done])
    | (refine ⟨?_, by omega⟩)
    | (refine ⟨fun hc => ?_, fun hc => ?_⟩ <;> (try (exfalso; omega)))
    | (intro hc <;> (try (exfalso; omega)))
    | (refine CallV.fun_ (h33) (by first | rfl | fail) (by first | assumption | (simp; done) | fail) (by first | (simp [hge, hk, hkn, hlr, hor, lst_len, lst_getE, intR_len, intR_getE, intR_set, intR_all, hne, intR_rows, hlg, c, hdn, p2, p3, p4', hjm]; done) | (simp [hge, hk, hkn, hlr, hor, lst_len, lst_getE, intR_len, intR_getE, intR_set, intR_all, hne, intR_rows, hlg, c, hdn, p2, p3, p4', hjm]; rfl) | fail) (by first | (simp; done) | fail) ?_ <;> (try simp [hge, hk, hkn, hlr, hor, lst_len, lst_getE, intR_len, intR_getE, intR_set, intR_all, hne, intR_rows, hlg, c, hdn, p2, p3, p4', hjm]))
    | (refine CallP.fun_ (h33) (by first | rfl | fail) (by first | assumption | (simp; done) | fail) (by first | (simp [hge, hk, hkn, hlr, hor, lst_len, lst_getE, intR_len, intR_getE, intR_set, intR_all, hne, intR_rows, hlg, c, hdn, p2, p3, p4', hjm]; done) | (simp [hge, hk, hkn, hlr, hor, lst_len, lst_getE, intR_len, intR_getE, intR_set, intR_all, hne, intR_rows, hlg, c, hdn, p2, p3, p4', hjm]; rfl) | fail) (by first | (simp; done) | fail) (fun d hd => ?_); subst hd; (try simp [hge, hk, hkn, hlr, hor, lst_len, lst_getE, intR_len, intR_getE, intR_set, intR_all, hne, intR_rows, hlg, c, hdn, p2, p3, p4', hjm]))
    | (refine CallV.fun_ (h43) (by first | rfl | fail) (by first | assumption | (simp; done) | fail) (by first | (simp [hge, hk, hkn, hlr, hor, lst_len, lst_getE, intR_len, intR_getE, intR_set, intR_all, hne, intR_rows, hlg, c, hdn, p2, p3, p4', hjm]; done) | (simp [hge, hk, hkn, hlr, hor, lst_len, lst_getE, intR_len, intR_getE, intR_set, intR_all, hne, intR_rows, hlg, c, hdn, p2, p3, p4', hjm]; rfl) | fail) (by first | (simp; done) | fail) ?_ <;> (try simp [hge, hk, hkn, hlr, hor, lst_len, lst_getE, intR_len, intR_getE, intR_set, intR_all, hne, intR_rows, hlg, c, hdn, p2, p3, p4', hjm]))
    | (refine CallP.fun_ (h43) (by first | rfl | fail) (by first | assumption | (simp; done) | fail) (by first | (simp [hge, hk, hkn, hlr, hor, lst_len, lst_getE, intR_len, intR_getE, intR_set, intR_all, hne, intR_rows, hlg, c, hdn, p2, p3, p4', hjm]; done) | (simp [hge, hk, hkn, hlr, hor, lst_len, lst_getE, intR_len, intR_getE, intR_set, intR_all, hne, intR_rows, hlg, c, hdn, p2, p3, p4', hjm]; rfl) | fail) (by first | (simp; done) | fail) (fun d hd => ?_); subst hd; (try simp [hge, hk, hkn, hlr, hor, lst_len, lst_getE, intR_len, intR_getE, intR_set, intR_all, hne, intR_rows, hlg, c, hdn, p2, p3, p4', hjm]))
    | (refine CallV.fun_ (hik) (by first | rfl | fail) (by first | assumption | (simp; done) | fail) (by first | (simp [hge, hk, hkn, hlr, hor, lst_len, lst_getE, intR_len, intR_getE, intR_set, intR_all, hne, intR_rows, hlg, c, hdn, p2, p3, p4', hjm]; done) | (simp [hge, hk, hkn, hlr, hor, lst_len, lst_getE, intR_len, intR_getE, intR_set, intR_all, hne, intR_rows, hlg, c, hdn, p2, p3, p4', hjm]; rfl) | fail) (by first | (simp; done) | fail) ?_ <;> (try simp [hge, hk, hkn, hlr, hor, lst_len, lst_getE, intR_len, intR_getE, intR_set, intR_all, hne, intR_rows, hlg, c, hdn, p2, p3, p4', hjm]))
    | (refine CallP.fun_ (hik) (by first | rfl | fail) (by first | assumption | (simp; done) | fail) (by first | (simp [hge, hk, hkn, hlr, hor, lst_len, lst_getE, intR_len, intR_getE, intR_set, intR_all, hne, intR_rows, hlg, c, hdn, p2, p3, p4', hjm]; done) | (simp [hge, hk, hkn, hlr, hor, lst_len, lst_getE, intR_len, intR_getE, intR_set, intR_all, hne, intR_rows, hlg, c, hdn, p2, p3, p4', hjm]; rfl) | fail) (by first | (simp; done) | fail) (fun d hd => ?_); subst hd; (try simp [hge, hk, hkn, hlr, hor, lst_len, lst_getE, intR_len, intR_getE, intR_set, intR_all, hne, intR_rows, hlg, c, hdn, p2, p3, p4', hjm])))
      all_goals
        (refine EndOK.val (.inr rfl) ?_; simp [resD, oneOrTup, pureD, Try.results7])
    · have p6 := p5 c
      rw [p6] at p3
      repeat' (first
    | (refine H_cons ?_; simp [hge, hk, hkn, hlr, hor, lst_len, lst_getE, intR_len, intR_getE, intR_set, intR_all, hne, intR_rows, hlg, c, hdn, p2, p3, p4', p6, hjm])
    | (refine HD2_val rfl ?_; simp [hge, hk, hkn, hlr, hor, lst_len, lst_getE, intR_len, intR_getE, intR_set, intR_all, hne, intR_rows, hlg, c, hdn, p2, p3, p4', p6, hjm])
    | (refine HD_cons ?_; simp [hge, hk, hkn, hlr, hor, lst_len, lst_getE, intR_len, intR_getE, intR_set, intR_all, hne, intR_rows, hlg, c, hdn, p2, p3, p4', p6, hjm])
    | (refine HD2_chg rfl ?_; simp [hge, hk, hkn, hlr, hor, lst_len, lst_getE, intR_len, intR_getE, intR_set, intR_all, hne, intR_rows, hlg, c, hdn, p2, p3, p4', p6, hjm])
    | (refine H_nil ?_; simp [hge, hk, hkn, hlr, hor, lst_len, lst_getE, intR_len, intR_getE, intR_set, intR_all, hne, intR_rows, hlg, c, hdn, p2, p3, p4', p6, hjm])
    | (refine ⟨by omega, ?_⟩)
    | (refine V_sseq ?_; simp [hge, hk, hkn, hlr, hor, lst_len, lst_getE, intR_len, intR_getE, intR_set, intR_all, hne, intR_rows, hlg, c, hdn, p2, p3, p4', p6, hjm])
    | (refine V_scond ?_; simp [hge, hk, hkn, hlr, hor, lst_len, lst_getE, intR_len, intR_getE, intR_set, intR_all, hne, intR_rows, hlg, c, hdn, p2, p3, p4', p6, hjm])
    | (refine HD2_nil (hC _ (by kernel_rfl)) (hk _ ?_); clear hC hk C k; simp only [RK_seq, RK_seq_ret, RK_seq_exit, RK_blk, RK_blk_ret, RK_blk_exit, RK_loop, RK_loop_ret, RK_loop_exit, RK_done])
    | (refine HD_nil ?_)
    | (refine hk _ ?_; clear hk k; simp only [RK_seq, RK_seq_ret, RK_seq_exit, RK_blk, RK_blk_ret, RK_blk_exit, RK_loop, RK_loop_ret, RK_loop_exit, RK_done])
    | (refine V_drawV rfl (by kernel_rfl) (by kernel_rfl) fun k hk => ?_; simp [hge, hk, hkn, hlr, hor, lst_len, lst_getE, intR_len, intR_getE, intR_set, intR_all, hne, intR_rows, hlg, c, hdn, p2, p3, p4', p6, hjm])
    | (refine V_drawN rfl (by kernel_rfl) (by kernel_rfl) (by simp [hn]) fun C k hC hk => ?_; simp [hge, hk, hkn, hlr, hor, lst_len, lst_getE, intR_len, intR_getE, intR_set, intR_all, hne, intR_rows, hlg, c, hdn, p2, p3, p4', p6, hjm])
    | (refine HD3_val rfl ?_; simp [hge, hk, hkn, hlr, hor, lst_len, lst_getE, intR_len, intR_getE, intR_set, intR_all, hne, intR_rows, hlg, c, hdn, p2, p3, p4', p6, hjm])
    | (refine HD3_put ?_; simp [hge, hk, hkn, hlr, hor, lst_len, lst_getE, intR_len, intR_getE, intR_set, intR_all, hne, intR_rows, hlg, c, hdn, p2, p3, p4', p6, hjm])
    | (refine HD3_chg rfl rfl ?_; simp [hge, hk, hkn, hlr, hor, lst_len, lst_getE, intR_len, intR_getE, intR_set, intR_all, hne, intR_rows, hlg, c, hdn, p2, p3, p4', p6, hjm])
    | (refine HD3_nil (hC _ _ (by kernel_rfl) (by kernel_rfl)) (hk _ ?_); clear hC hk C k; simp only [RK_seq, RK_seq_ret, RK_seq_exit, RK_blk, RK_blk_ret, RK_blk_exit, RK_loop, RK_loop_ret, RK_loop_exit, RK_done]; simp [St.ins, insL, putE, getK_setOb, getK_cons])
    | (refine V_drawE rfl (by kernel_rfl) (by kernel_rfl) (by simp [hn]) fun C k hC hk => ?_; simp [hge, hk, hkn, hlr, hor, lst_len, lst_getE, intR_len, intR_getE, intR_set, intR_all, hne, intR_rows, hlg, c, hdn, p2, p3, p4', p6, hjm])
    | (refine HD_guardU rfl (by simp [hge, hk, hkn, hlr, hor, lst_len, lst_getE, intR_len, intR_getE, intR_set, intR_all, hne, intR_rows, hlg, c, hdn, p2, p3, p4', p6, hjm]) ?_; simp [hge, hk, hkn, hlr, hor, lst_len, lst_getE, intR_len, intR_getE, intR_set, intR_all, hne, intR_rows, hlg, c, hdn, p2, p3, p4', p6, hjm])
    | (refine HD_guard rfl (by simp [hge, hk, hkn, hlr, hor, lst_len, lst_getE, intR_len, intR_getE, intR_set, intR_all, hne, intR_rows, hlg, c, hdn, p2, p3, p4', p6, hjm]) (fun hc => ?_) (fun hc => ?_) <;> (try simp [hge, hk, hkn, hlr, hor, lst_len, lst_getE, intR_len, intR_getE, intR_set, intR_all, hne, intR_rows, hlg, c, hdn, p2, p3, p4', p6, hjm] at hc) <;> (try (exfalso; omega)) <;> (try simp [hge, hk, hkn, hlr, hor, lst_len, lst_getE, intR_len, intR_getE, intR_set, intR_all, hne, intR_rows, hlg, c, hdn, p2, p3, p4', p6, hjm]))
    | (refine HD2_guardU rfl (by simp [hge, hk, hkn, hlr, hor, lst_len, lst_getE, intR_len, intR_getE, intR_set, intR_all, hne, intR_rows, hlg, c, hdn, p2, p3, p4', p6, hjm]) ?_; simp [hge, hk, hkn, hlr, hor, lst_len, lst_getE, intR_len, intR_getE, intR_set, intR_all, hne, intR_rows, hlg, c, hdn, p2, p3, p4', p6, hjm])
    | (refine HD2_guard rfl (by simp [hge, hk, hkn, hlr, hor, lst_len, lst_getE, intR_len, intR_getE, intR_set, intR_all, hne, intR_rows, hlg, c, hdn, p2, p3, p4', p6, hjm]) (fun hc => ?_) (fun hc => ?_) <;> (try simp [hge, hk, hkn, hlr, hor, lst_len, lst_getE, intR_len, intR_getE, intR_set, intR_all, hne, intR_rows, hlg, c, hdn, p2, p3, p4', p6, hjm] at hc) <;> (try (exfalso; omega)) <;> (try simp [hge, hk, hkn, hlr, hor, lst_len, lst_getE, intR_len, intR_getE, intR_set, intR_all, hne, intR_rows, hlg, c, hdn, p2, p3, p4', p6, hjm]))
    | (refine V_sblock ?_; simp [hge, hk, hkn, hlr, hor, lst_len, lst_getE, intR_len, intR_getE, intR_set, intR_all, hne, intR_rows, hlg, c, hdn, p2, p3, p4', p6, hjm])
    | (refine V_sregion ?_; simp [hge, hk, hkn, hlr, hor, lst_len, lst_getE, intR_len, intR_getE, intR_set, intR_all, hne, intR_rows, hlg, c, hdn, p2, p3, p4', p6, hjm])
    | (refine V_ret ?_; simp only [RK_seq, RK_seq_ret, RK_seq_exit, RK_blk, RK_blk_ret, RK_blk_exit, RK_loop, RK_loop_ret, RK_loop_exit, RK_done])
    | (refine V_skip ?_; simp only [RK_seq, RK_seq_ret, RK_seq_exit, RK_blk, RK_blk_ret, RK_blk_exit, RK_loop, RK_loop_ret, RK_loop_exit, RK_done])
    | (refine V_exit ?_; simp [RK_seq, RK_seq_ret, RK_seq_exit, RK_blk, RK_blk_ret, RK_blk_exit, RK_loop, RK_loop_ret, RK_loop_exit, RK_done])
    | (refine ⟨?_, by omega⟩)
    | (refine ⟨fun hc => ?_, fun hc => ?_⟩ <;> (try (exfalso; omega)))
    | (intro hc <;> (try (exfalso; omega)))
    | (refine CallV.fun_ (h33) (by first | rfl | fail) (by first | assumption | (simp; done) | fail) (by first | (simp [hge, hk, hkn, hlr, hor, lst_len, lst_getE, intR_len, intR_getE, intR_set, intR_all, hne, intR_rows, hlg, c, hdn, p2, p3, p4', p6, hjm]; done) | (simp [hge, hk, hkn, hlr, hor, lst_len, lst_getE, intR_len, intR_getE, intR_set, intR_all, hne, intR_rows, hlg, c, hdn, p2, p3, p4', p6, hjm]; rfl) | fail) (by first | (simp; done) | fail) ?_ <;> (try simp [hge, hk, hkn, hlr, hor, lst_len, lst_getE, intR_len, intR_getE, intR_set, intR_all, hne, intR_rows, hlg, c, hdn, p2, p3, p4', p6, hjm]))
    | (refine CallP.fun_ (h33) (by first | rfl | fail) (by first | assumption | (simp; done) | fail) (by first | (simp [hge, hk, hkn, hlr, hor, lst_len, lst_getE, intR_len, intR_getE, intR_set, intR_all, hne, intR_rows, hlg, c, hdn, p2, p3, p4', p6, hjm]; done) | (simp [hge, hk, hkn, hlr, hor, lst_len, lst_getE, intR_len, intR_getE, intR_set, intR_all, hne, intR_rows, hlg, c, hdn, p2, p3, p4', p6, hjm]; rfl) | fail) (by first | (simp; done) | fail) (fun d hd => ?_); subst hd; (try simp [hge, hk, hkn, hlr, hor, lst_len, lst_getE, intR_len, intR_getE, intR_set, intR_all, hne, intR_rows, hlg, c, hdn, p2, p3, p4', p6, hjm]))
    | (refine CallV.fun_ (h43) (by first | rfl | fail) (by first | assumption | (simp; done) | fail) (by first | (simp [hge, hk, hkn, hlr, hor, lst_len, lst_getE, intR_len, intR_getE, intR_set, intR_all, hne, intR_rows, hlg, c, hdn, p2, p3, p4', p6, hjm]; done) | (simp [hge, hk, hkn, hlr, hor, lst_len, lst_getE, intR_len, intR_getE, intR_set, intR_all, hne, intR_rows, hlg, c, hdn, p2, p3, p4', p6, hjm]; rfl) | fail) (by first | (simp; done) | fail) ?_ <;> (try simp [hge, hk, hkn, hlr, hor, lst_len, lst_getE, intR_len, intR_getE, intR_set, intR_all, hne, intR_rows, hlg, c, hdn, p2, p3, p4', p6, hjm]))
    | (refine CallP.fun_ (h43) (by first | rfl | fail) (by first | assumption | (simp; done) | fail) (by first | (simp [hge, hk, hkn, hlr, hor, lst_len, lst_getE, intR_len, intR_getE, intR_set, intR_all, hne, intR_rows, hlg, c, hdn, p2, p3, p4', p6, hjm]; done) | (simp [hge, hk, hkn, hlr, hor, lst_len, lst_getE, intR_len, intR_getE, intR_set, intR_all, hne, intR_rows, hlg, c, hdn, p2, p3, p4', p6, hjm]; rfl) | fail) (by first | (simp; done) | fail) (fun d hd => ?_); subst hd; (try simp [hge, hk, hkn, hlr, hor, lst_len, lst_getE, intR_len, intR_getE, intR_set, intR_all, hne, intR_rows, hlg, c, hdn, p2, p3, p4', p6, hjm]))
    | (refine CallV.fun_ (hik) (by first | rfl | fail) (by first | assumption | (simp; done) | fail) (by first | (simp [hge, hk, hkn, hlr, hor, lst_len, lst_getE, intR_len, intR_getE, intR_set, intR_all, hne, intR_rows, hlg, c, hdn, p2, p3, p4', p6, hjm]; done) | (simp [hge, hk, hkn, hlr, hor, lst_len, lst_getE, intR_len, intR_getE, intR_set, intR_all, hne, intR_rows, hlg, c, hdn, p2, p3, p4', p6, hjm]; rfl) | fail) (by first | (simp; done) | fail) ?_ <;> (try simp [hge, hk, hkn, hlr, hor, lst_len, lst_getE, intR_len, intR_getE, intR_set, intR_all, hne, intR_rows, hlg, c, hdn, p2, p3, p4', p6, hjm]))
    | (refine CallP.fun_ (hik) (by first | rfl | fail) (by first | assumption | (simp; done) | fail) (by first | (simp [hge, hk, hkn, hlr, hor, lst_len, lst_getE, intR_len, intR_getE, intR_set, intR_all, hne, intR_rows, hlg, c, hdn, p2, p3, p4', p6, hjm]; done) | (simp [hge, hk, hkn, hlr, hor, lst_len, lst_getE, intR_len, intR_getE, intR_set, intR_all, hne, intR_rows, hlg, c, hdn, p2, p3, p4', p6, hjm]; rfl) | fail) (by first | (simp; done) | fail) (fun d hd => ?_); subst hd; (try simp [hge, hk, hkn, hlr, hor, lst_len, lst_getE, intR_len, intR_getE, intR_set, intR_all, hne, intR_rows, hlg, c, hdn, p2, p3, p4', p6, hjm])))
      all_goals
        (refine EndOK.val (.inr rfl) ?_; simp [resD, oneOrTup, pureD, Try.results7])
end Go.Proofs.Ytjmddlekokodfaa
