/- Layer 23: who comes next: the walks. -/
import Derived.Test.YtmebfcehkfaiaaaTj
set_option linter.all false
set_option maxRecDepth 100000
set_option maxHeartbeats 8000000
set_option linter.all false
namespace Go.Proofs.Ytmebfcehkfaiaaa
open Go Go.VL
theorem okN_false {l had : List Int} {kind period : Int} (h : okN l had kind period = false) : validB l kind = false ∨ l = [] ∨ had.length ≠ l.length ∨ period < 0 ∨ minS had < 0 := by
  rw [validB_eq]
  simp only [okN, Bool.and_eq_false_iff, decide_eq_false_iff_not, ne_eq, Decidable.not_not] at h ⊢
  rcases h with (((((h | h) | h) | h) | h) | h) | h
  · exact .inl (.inl (.inl h))
  · exact .inr (.inl h)
  · exact .inr (.inr (.inl h))
  · exact .inl (.inl (.inr h))
  · exact .inl (.inr h)
  · exact .inr (.inr (.inr (.inl (by omega))))
  · exact .inr (.inr (.inr (.inr (by omega))))
theorem okN_true {l had : List Int} {kind period : Int} (h : okN l had kind period = true) : validB l kind = true ∧ rightS l = true ∧ l ≠ [] ∧ had.length = l.length ∧ 0 ≤ period ∧ 0 ≤ minS had ∧ 0 ≤ kind ∧ kind < 3 := by
  rw [validB_eq]
  simp only [okN, Bool.and_eq_true, decide_eq_true_eq] at h ⊢
  obtain ⟨⟨⟨⟨⟨⟨h1, h2⟩, h3⟩, h4⟩, h5⟩, h6⟩, h7⟩ := h
  exact ⟨⟨⟨h1, h4⟩, h5⟩, h1, h2, h3, h6, h7, h4, h5⟩
attribute [local simp] hcons hstep evPure opd uOf putOK St.put St.at getK binD binI binS binB nilD aggD eqUs cmpK lookD lookR rangeD nextD entryD keyD valU keyU lookK mkV entD_nil lookK_entD updK_entD1 updK_entD2 updK_entD3 allUE allUE_entD makeMapD mapUpdD mapEff updK valM Key.kk shiftI arith unD convD pickD loadD cellsAt fieldAddrD fieldD indexAddrD indexD sliceD cutD lenD minmaxD nilCheckD buildD fillD cellsD isOne ones setAll mkAgg allU allocD boxD storeD St.add buildSliceD appendD rowsOf makeD setOb getK_setOb getK_del getK_cons stripL strip guardTmp entry chunks zcells valD argsV argsW argW argU1 argU0 argsU0 argsU1 calleeOf scalarD scalarU delAll effD St.effS RK_seq RK_seq_ret RK_seq_exit RK_blk RK_blk_ret RK_blk_exit RK_loop RK_loop_ret RK_loop_exit RK_done vs_seq vs_block vs_skip vs_label vs_exit vs_ret vs_cond vs_region vs_loop vs_draw vs_range vs_scope applyW mkD rdIds lentIds callOf calleeOf freeOp D.ids Op.operands Call.operands isEffOp IntKind.bits allU2 allU2_append List.take_of_length_le List.range_succ
attribute [local irreducible] V G H HD HD2 RunK Eff CallP CallV EndOK Fun Ret FinOK LoopI LoopW EndW
theorem next_fun (l had : List Int) (kind seed period : Int) (hl : l.length ≤ 1000000) (hh : had.length ≤ 1000000) : Fun Try.prog 9 [.u (ints l), .u (ints had), .u (.int .i64 kind), .u (.int .i64 seed), .u (.int .i64 period)]
    (· = .tup [.u (.int .i64 (nextS l had kind seed period).1), .u (.bool (nextS l had kind seed period).2)]) := by
  have hvf := valid_fun l kind (by omega)
  rcases (show okN l had kind period = false ∨ okN l had kind period = true by cases okN l had kind period <;> simp) with hv | hv
  · have ho : nextS l had kind seed period = (0, false) := by simp [nextS, hv]
    rw [ho]
    by_cases h1 : validB l kind = false
    · rw [h1] at hvf
      (refine Fun.of_body Try.func9 rfl (by simp) fun Γ hn => ?_); simp only [entry, List.zipIdx_cons, List.zipIdx_nil, List.map_cons, List.map_nil, Nat.zero_add, Try.ntmps9]
      repeat' (first
    | (refine H_cons ?_; simp)
    | (refine HD2_val rfl ?_; simp)
    | (refine HD_cons ?_; simp)
    | (refine HD2_chg rfl ?_; simp)
    | (refine H_nil ?_; simp)
    | (refine ⟨by omega, ?_⟩)
    | (refine V_sseq ?_; simp)
    | (refine V_scond ?_; simp)
    | (refine HD2_nil (hC _ (by kernel_rfl)) (hk _ ?_); clear hC hk C k; simp only [RK_seq, RK_seq_ret, RK_seq_exit, RK_blk, RK_blk_ret, RK_blk_exit, RK_loop, RK_loop_ret, RK_loop_exit, RK_done])
    | (refine HD_nil ?_)
    | (refine hk _ ?_; clear hk k; simp only [RK_seq, RK_seq_ret, RK_seq_exit, RK_blk, RK_blk_ret, RK_blk_exit, RK_loop, RK_loop_ret, RK_loop_exit, RK_done])
    | (refine V_drawV rfl (by kernel_rfl) (by kernel_rfl) fun k hk => ?_; simp)
    | (refine V_drawN rfl (by kernel_rfl) (by kernel_rfl) (by simp [hn]) fun C k hC hk => ?_; simp)
    | (refine HD3_val rfl ?_; simp)
    | (refine HD3_put ?_; simp)
    | (refine HD3_chg rfl rfl ?_; simp)
    | (refine HD3_nil (hC _ _ (by kernel_rfl) (by kernel_rfl)) (hk _ ?_); clear hC hk C k; simp only [RK_seq, RK_seq_ret, RK_seq_exit, RK_blk, RK_blk_ret, RK_blk_exit, RK_loop, RK_loop_ret, RK_loop_exit, RK_done]; simp [St.ins, insL, putE, getK_setOb, getK_cons])
    | (refine V_drawE rfl (by kernel_rfl) (by kernel_rfl) (by simp [hn]) fun C k hC hk => ?_; simp)
    | (refine HD_guardU rfl (by simp) ?_; simp)
    | (refine HD_guard rfl (by simp) (fun hc => ?_) (fun hc => ?_) <;> (try simp at hc) <;> (try (exfalso; omega)) <;> (try simp))
    | (refine HD2_guardU rfl (by simp) ?_; simp)
    | (refine HD2_guard rfl (by simp) (fun hc => ?_) (fun hc => ?_) <;> (try simp at hc) <;> (try (exfalso; omega)) <;> (try simp))
    | (refine V_sblock ?_; simp)
    | (refine V_sregion ?_; simp)
    | (refine V_ret ?_; simp only [RK_seq, RK_seq_ret, RK_seq_exit, RK_blk, RK_blk_ret, RK_blk_exit, RK_loop, RK_loop_ret, RK_loop_exit, RK_done])
    | (refine V_skip ?_; simp only [RK_seq, RK_seq_ret, RK_seq_exit, RK_blk, RK_blk_ret, RK_blk_exit, RK_loop, RK_loop_ret, RK_loop_exit, RK_done])
    | (refine V_exit ?_; simp [RK_seq, RK_seq_ret, RK_seq_exit, RK_blk, RK_blk_ret, RK_blk_exit, RK_loop, RK_loop_ret, RK_loop_exit, RK_done])
    | (refine ⟨?_, by omega⟩)
    | (refine ⟨fun hc => ?_, fun hc => ?_⟩ <;> (try (exfalso; omega)))
    | (intro hc <;> (try (exfalso; omega)))
    | (refine CallV.fun_ (hvf) (by first | rfl | fail) (by first | assumption | (simp; done) | fail) (by first | (simp; done) | (simp; rfl) | fail) (by first | (simp; done) | fail) ?_ <;> (try simp))
    | (refine CallP.fun_ (hvf) (by first | rfl | fail) (by first | assumption | (simp; done) | fail) (by first | (simp; done) | (simp; rfl) | fail) (by first | (simp; done) | fail) (fun d hd => ?_); subst hd; (try simp)))
      all_goals
        (refine EndOK.val (.inr rfl) ?_; simp [resD, oneOrTup, pureD, Try.results9])
    rw [show validB l kind = true by simpa using h1] at hvf
    by_cases h2 : l = []
    · subst h2
      (refine Fun.of_body Try.func9 rfl (by simp) fun Γ hn => ?_); simp only [entry, List.zipIdx_cons, List.zipIdx_nil, List.map_cons, List.map_nil, Nat.zero_add, Try.ntmps9]
      repeat' (first
    | (refine H_cons ?_; simp)
    | (refine HD2_val rfl ?_; simp)
    | (refine HD_cons ?_; simp)
    | (refine HD2_chg rfl ?_; simp)
    | (refine H_nil ?_; simp)
    | (refine ⟨by omega, ?_⟩)
    | (refine V_sseq ?_; simp)
    | (refine V_scond ?_; simp)
    | (refine HD2_nil (hC _ (by kernel_rfl)) (hk _ ?_); clear hC hk C k; simp only [RK_seq, RK_seq_ret, RK_seq_exit, RK_blk, RK_blk_ret, RK_blk_exit, RK_loop, RK_loop_ret, RK_loop_exit, RK_done])
    | (refine HD_nil ?_)
    | (refine hk _ ?_; clear hk k; simp only [RK_seq, RK_seq_ret, RK_seq_exit, RK_blk, RK_blk_ret, RK_blk_exit, RK_loop, RK_loop_ret, RK_loop_exit, RK_done])
    | (refine V_drawV rfl (by kernel_rfl) (by kernel_rfl) fun k hk => ?_; simp)
    | (refine V_drawN rfl (by kernel_rfl) (by kernel_rfl) (by simp [hn]) fun C k hC hk => ?_; simp)
    | (refine HD3_val rfl ?_; simp)
    | (refine HD3_put ?_; simp)
    | (refine HD3_chg rfl rfl ?_; simp)
    | (refine HD3_nil (hC _ _ (by kernel_rfl) (by kernel_rfl)) (hk _ ?_); clear hC hk C k; simp only [RK_seq, RK_seq_ret, RK_seq_exit, RK_blk, RK_blk_ret, RK_blk_exit, RK_loop, RK_loop_ret, RK_loop_exit, RK_done]; simp [St.ins, insL, putE, getK_setOb, getK_cons])
    | (refine V_drawE rfl (by kernel_rfl) (by kernel_rfl) (by simp [hn]) fun C k hC hk => ?_; simp)
    | (refine HD_guardU rfl (by simp) ?_; simp)
    | (refine HD_guard rfl (by simp) (fun hc => ?_) (fun hc => ?_) <;> (try simp at hc) <;> (try (exfalso; omega)) <;> (try simp))
    | (refine HD2_guardU rfl (by simp) ?_; simp)
    | (refine HD2_guard rfl (by simp) (fun hc => ?_) (fun hc => ?_) <;> (try simp at hc) <;> (try (exfalso; omega)) <;> (try simp))
    | (refine V_sblock ?_; simp)
    | (refine V_sregion ?_; simp)
    | (refine V_ret ?_; simp only [RK_seq, RK_seq_ret, RK_seq_exit, RK_blk, RK_blk_ret, RK_blk_exit, RK_loop, RK_loop_ret, RK_loop_exit, RK_done])
    | (refine V_skip ?_; simp only [RK_seq, RK_seq_ret, RK_seq_exit, RK_blk, RK_blk_ret, RK_blk_exit, RK_loop, RK_loop_ret, RK_loop_exit, RK_done])
    | (refine V_exit ?_; simp [RK_seq, RK_seq_ret, RK_seq_exit, RK_blk, RK_blk_ret, RK_blk_exit, RK_loop, RK_loop_ret, RK_loop_exit, RK_done])
    | (refine ⟨?_, by omega⟩)
    | (refine ⟨fun hc => ?_, fun hc => ?_⟩ <;> (try (exfalso; omega)))
    | (intro hc <;> (try (exfalso; omega)))
    | (refine CallV.fun_ (hvf) (by first | rfl | fail) (by first | assumption | (simp; done) | fail) (by first | (simp; done) | (simp; rfl) | fail) (by first | (simp; done) | fail) ?_ <;> (try simp))
    | (refine CallP.fun_ (hvf) (by first | rfl | fail) (by first | assumption | (simp; done) | fail) (by first | (simp; done) | (simp; rfl) | fail) (by first | (simp; done) | fail) (fun d hd => ?_); subst hd; (try simp)))
      all_goals
        (refine EndOK.val (.inr rfl) ?_; simp [resD, oneOrTup, pureD, Try.results9])
    have h2b : ¬ l.length = 0 := fun h => h2 (List.eq_nil_of_length_eq_zero h)
    by_cases h3 : had.length = l.length
    · have h3b : (had.length : Int) = l.length := by omega
      have hne : had ≠ [] := fun h => by subst h; exact h2b h3.symm
      have hmf := min_fun had hh hne
      by_cases h4 : minS had < 0
      · (refine Fun.of_body Try.func9 rfl (by simp) fun Γ hn => ?_); simp only [entry, List.zipIdx_cons, List.zipIdx_nil, List.map_cons, List.map_nil, Nat.zero_add, Try.ntmps9]
        repeat' (first
    | (refine H_cons ?_; simp [h2, h3, h3b, h4])
    | (refine HD2_val rfl ?_; simp [h2, h3, h3b, h4])
    | (refine HD_cons ?_; simp [h2, h3, h3b, h4])
    | (refine HD2_chg rfl ?_; simp [h2, h3, h3b, h4])
    | (refine H_nil ?_; simp [h2, h3, h3b, h4])
    | (refine ⟨by omega, ?_⟩)
    | (refine V_sseq ?_; simp [h2, h3, h3b, h4])
    | (refine V_scond ?_; simp [h2, h3, h3b, h4])
    | (refine HD2_nil (hC _ (by kernel_rfl)) (hk _ ?_); clear hC hk C k; simp only [RK_seq, RK_seq_ret, RK_seq_exit, RK_blk, RK_blk_ret, RK_blk_exit, RK_loop, RK_loop_ret, RK_loop_exit, RK_done])
    | (refine HD_nil ?_)
    | (refine hk _ ?_; clear hk k; simp only [RK_seq, RK_seq_ret, RK_seq_exit, RK_blk, RK_blk_ret, RK_blk_exit, RK_loop, RK_loop_ret, RK_loop_exit, RK_done])
    | (refine V_drawV rfl (by kernel_rfl) (by kernel_rfl) fun k hk => ?_; simp [h2, h3, h3b, h4])
    | (refine V_drawN rfl (by kernel_rfl) (by kernel_rfl) (by simp [hn]) fun C k hC hk => ?_; simp [h2, h3, h3b, h4])
    | (refine HD3_val rfl ?_; simp [h2, h3, h3b, h4])
    | (refine HD3_put ?_; simp [h2, h3, h3b, h4])
    | (refine HD3_chg rfl rfl ?_; simp [h2, h3, h3b, h4])
    | (refine HD3_nil (hC _ _ (by kernel_rfl) (by kernel_rfl)) (hk _ ?_); clear hC hk C k; simp only [RK_seq, RK_seq_ret, RK_seq_exit, RK_blk, RK_blk_ret, RK_blk_exit, RK_loop, RK_loop_ret, RK_loop_exit, RK_done]; simp [St.ins, insL, putE, getK_setOb, getK_cons])
    | (refine V_drawE rfl (by kernel_rfl) (by kernel_rfl) (by simp [hn]) fun C k hC hk => ?_; simp [h2, h3, h3b, h4])
    | (refine HD_guardU rfl (by simp [h2, h3, h3b, h4]) ?_; simp [h2, h3, h3b, h4])
    | (refine HD_guard rfl (by simp [h2, h3, h3b, h4]) (fun hc => ?_) (fun hc => ?_) <;> (try simp [h2, h3, h3b, h4] at hc) <;> (try (exfalso; omega)) <;> (try simp [h2, h3, h3b, h4]))
    | (refine HD2_guardU rfl (by simp [h2, h3, h3b, h4]) ?_; simp [h2, h3, h3b, h4])
    | (refine HD2_guard rfl (by simp [h2, h3, h3b, h4]) (fun hc => ?_) (fun hc => ?_) <;> (try simp [h2, h3, h3b, h4] at hc) <;> (try (exfalso; omega)) <;> (try simp [h2, h3, h3b, h4]))
    | (refine V_sblock ?_; simp [h2, h3, h3b, h4])
    | (refine V_sregion ?_; simp [h2, h3, h3b, h4])
    | (refine V_ret ?_; simp only [RK_seq, RK_seq_ret, RK_seq_exit, RK_blk, RK_blk_ret, RK_blk_exit, RK_loop, RK_loop_ret, RK_loop_exit, RK_done])
    | (refine V_skip ?_; simp only [RK_seq, RK_seq_ret, RK_seq_exit, RK_blk, RK_blk_ret, RK_blk_exit, RK_loop, RK_loop_ret, RK_loop_exit, RK_done])
    | (refine V_exit ?_; simp [RK_seq, RK_seq_ret, RK_seq_exit, RK_blk, RK_blk_ret, RK_blk_exit, RK_loop, RK_loop_ret, RK_loop_exit, RK_done])
    | (refine ⟨?_, by omega⟩)
    | (refine ⟨fun hc => ?_, fun hc => ?_⟩ <;> (try (exfalso; omega)))
    | (intro hc <;> (try (exfalso; omega)))
    | (refine CallV.fun_ (hvf) (by first | rfl | fail) (by first | assumption | (simp; done) | fail) (by first | (simp [h2, h3, h3b, h4]; done) | (simp [h2, h3, h3b, h4]; rfl) | fail) (by first | (simp; done) | fail) ?_ <;> (try simp [h2, h3, h3b, h4]))
    | (refine CallP.fun_ (hvf) (by first | rfl | fail) (by first | assumption | (simp; done) | fail) (by first | (simp [h2, h3, h3b, h4]; done) | (simp [h2, h3, h3b, h4]; rfl) | fail) (by first | (simp; done) | fail) (fun d hd => ?_); subst hd; (try simp [h2, h3, h3b, h4]))
    | (refine CallV.fun_ (hmf) (by first | rfl | fail) (by first | assumption | (simp; done) | fail) (by first | (simp [h2, h3, h3b, h4]; done) | (simp [h2, h3, h3b, h4]; rfl) | fail) (by first | (simp; done) | fail) ?_ <;> (try simp [h2, h3, h3b, h4]))
    | (refine CallP.fun_ (hmf) (by first | rfl | fail) (by first | assumption | (simp; done) | fail) (by first | (simp [h2, h3, h3b, h4]; done) | (simp [h2, h3, h3b, h4]; rfl) | fail) (by first | (simp; done) | fail) (fun d hd => ?_); subst hd; (try simp [h2, h3, h3b, h4])))
        all_goals
          (refine EndOK.val (.inr rfl) ?_; simp [resD, oneOrTup, pureD, Try.results9])
      by_cases h5 : period < 0
      · (refine Fun.of_body Try.func9 rfl (by simp) fun Γ hn => ?_); simp only [entry, List.zipIdx_cons, List.zipIdx_nil, List.map_cons, List.map_nil, Nat.zero_add, Try.ntmps9]
        repeat' (first
    | (refine H_cons ?_; simp [h2, h3, h3b, h4, h5])
    | (refine HD2_val rfl ?_; simp [h2, h3, h3b, h4, h5])
    | (refine HD_cons ?_; simp [h2, h3, h3b, h4, h5])
    | (refine HD2_chg rfl ?_; simp [h2, h3, h3b, h4, h5])
    | (refine H_nil ?_; simp [h2, h3, h3b, h4, h5])
    | (refine ⟨by omega, ?_⟩)
    | (refine V_sseq ?_; simp [h2, h3, h3b, h4, h5])
    | (refine V_scond ?_; simp [h2, h3, h3b, h4, h5])
    | (refine HD2_nil (hC _ (by kernel_rfl)) (hk _ ?_); clear hC hk C k; simp only [RK_seq, RK_seq_ret, RK_seq_exit, RK_blk, RK_blk_ret, RK_blk_exit, RK_loop, RK_loop_ret, RK_loop_exit, RK_done])
    | (refine HD_nil ?_)
    | (refine hk _ ?_; clear hk k; simp only [RK_seq, RK_seq_ret, RK_seq_exit, RK_blk, RK_blk_ret, RK_blk_exit, RK_loop, RK_loop_ret, RK_loop_exit, RK_done])
    | (refine V_drawV rfl (by kernel_rfl) (by kernel_rfl) fun k hk => ?_; simp [h2, h3, h3b, h4, h5])
    | (refine V_drawN rfl (by kernel_rfl) (by kernel_rfl) (by simp [hn]) fun C k hC hk => ?_; simp [h2, h3, h3b, h4, h5])
    | (refine HD3_val rfl ?_; simp [h2, h3, h3b, h4, h5])
    | (refine HD3_put ?_; simp [h2, h3, h3b, h4, h5])
    | (refine HD3_chg rfl rfl ?_; simp [h2, h3, h3b, h4, h5])
    | (refine HD3_nil (hC _ _ (by kernel_rfl) (by kernel_rfl)) (hk _ ?_); clear hC hk C k; simp only [RK_seq, RK_seq_ret, RK_seq_exit, RK_blk, RK_blk_ret, RK_blk_exit, RK_loop, RK_loop_ret, RK_loop_exit, RK_done]; simp [St.ins, insL, putE, getK_setOb, getK_cons])
    | (refine V_drawE rfl (by kernel_rfl) (by kernel_rfl) (by simp [hn]) fun C k hC hk => ?_; simp [h2, h3, h3b, h4, h5])
    | (refine HD_guardU rfl (by simp [h2, h3, h3b, h4, h5]) ?_; simp [h2, h3, h3b, h4, h5])
    | (refine HD_guard rfl (by simp [h2, h3, h3b, h4, h5]) (fun hc => ?_) (fun hc => ?_) <;> (try simp [h2, h3, h3b, h4, h5] at hc) <;> (try (exfalso; omega)) <;> (try simp [h2, h3, h3b, h4, h5]))
    | (refine HD2_guardU rfl (by simp [h2, h3, h3b, h4, h5]) ?_; simp [h2, h3, h3b, h4, h5])
    | (refine HD2_guard rfl (by simp [h2, h3, h3b, h4, h5]) (fun hc => ?_) (fun hc => ?_) <;> (try simp [h2, h3, h3b, h4, h5] at hc) <;> (try (exfalso; omega)) <;> (try simp [h2, h3, h3b, h4, h5]))
    | (refine V_sblock ?_; simp [h2, h3, h3b, h4, h5])
    | (refine V_sregion ?_; simp [h2, h3, h3b, h4, h5])
    | (refine V_ret ?_; simp only [RK_seq, RK_seq_ret, RK_seq_exit, RK_blk, RK_blk_ret, RK_blk_exit, RK_loop, RK_loop_ret, RK_loop_exit, RK_done])
    | (refine V_skip ?_; simp only [RK_seq, RK_seq_ret, RK_seq_exit, RK_blk, RK_blk_ret, RK_blk_exit, RK_loop, RK_loop_ret, RK_loop_exit, RK_done])
    | (refine V_exit ?_; simp [RK_seq, RK_seq_ret, RK_seq_exit, RK_blk, RK_blk_ret, RK_blk_exit, RK_loop, RK_loop_ret, RK_loop_exit, RK_done])
    | (refine ⟨?_, by omega⟩)
    | (refine ⟨fun hc => ?_, fun hc => ?_⟩ <;> (try (exfalso; omega)))
    | (intro hc <;> (try (exfalso; omega)))
    | (refine CallV.fun_ (hvf) (by first | rfl | fail) (by first | assumption | (simp; done) | fail) (by first | (simp [h2, h3, h3b, h4, h5]; done) | (simp [h2, h3, h3b, h4, h5]; rfl) | fail) (by first | (simp; done) | fail) ?_ <;> (try simp [h2, h3, h3b, h4, h5]))
    | (refine CallP.fun_ (hvf) (by first | rfl | fail) (by first | assumption | (simp; done) | fail) (by first | (simp [h2, h3, h3b, h4, h5]; done) | (simp [h2, h3, h3b, h4, h5]; rfl) | fail) (by first | (simp; done) | fail) (fun d hd => ?_); subst hd; (try simp [h2, h3, h3b, h4, h5]))
    | (refine CallV.fun_ (hmf) (by first | rfl | fail) (by first | assumption | (simp; done) | fail) (by first | (simp [h2, h3, h3b, h4, h5]; done) | (simp [h2, h3, h3b, h4, h5]; rfl) | fail) (by first | (simp; done) | fail) ?_ <;> (try simp [h2, h3, h3b, h4, h5]))
    | (refine CallP.fun_ (hmf) (by first | rfl | fail) (by first | assumption | (simp; done) | fail) (by first | (simp [h2, h3, h3b, h4, h5]; done) | (simp [h2, h3, h3b, h4, h5]; rfl) | fail) (by first | (simp; done) | fail) (fun d hd => ?_); subst hd; (try simp [h2, h3, h3b, h4, h5])))
        all_goals
          (refine EndOK.val (.inr rfl) ?_; simp [resD, oneOrTup, pureD, Try.results9])
      rcases okN_false hv with h | h | h | h | h
      · exact absurd h h1
      · exact absurd h h2
      · exact absurd h3 h
      · exact absurd h h5
      · exact absurd h h4
    have h3b : ¬ (had.length : Int) = l.length := by omega
    (refine Fun.of_body Try.func9 rfl (by simp) fun Γ hn => ?_); simp only [entry, List.zipIdx_cons, List.zipIdx_nil, List.map_cons, List.map_nil, Nat.zero_add, Try.ntmps9]
    repeat' (first
    | (refine H_cons ?_; simp [h2, h3, h3b])
    | (refine HD2_val rfl ?_; simp [h2, h3, h3b])
    | (refine HD_cons ?_; simp [h2, h3, h3b])
    | (refine HD2_chg rfl ?_; simp [h2, h3, h3b])
    | (refine H_nil ?_; simp [h2, h3, h3b])
    | (refine ⟨by omega, ?_⟩)
    | (refine V_sseq ?_; simp [h2, h3, h3b])
    | (refine V_scond ?_; simp [h2, h3, h3b])
    | (refine HD2_nil (hC _ (by kernel_rfl)) (hk _ ?_); clear hC hk C k; simp only [RK_seq, RK_seq_ret, RK_seq_exit, RK_blk, RK_blk_ret, RK_blk_exit, RK_loop, RK_loop_ret, RK_loop_exit, RK_done])
    | (refine HD_nil ?_)
    | (refine hk _ ?_; clear hk k; simp only [RK_seq, RK_seq_ret, RK_seq_exit, RK_blk, RK_blk_ret, RK_blk_exit, RK_loop, RK_loop_ret, RK_loop_exit, RK_done])
    | (refine V_drawV rfl (by kernel_rfl) (by kernel_rfl) fun k hk => ?_; simp [h2, h3, h3b])
    | (refine V_drawN rfl (by kernel_rfl) (by kernel_rfl) (by simp [hn]) fun C k hC hk => ?_; simp [h2, h3, h3b])
    | (refine HD3_val rfl ?_; simp [h2, h3, h3b])
    | (refine HD3_put ?_; simp [h2, h3, h3b])
    | (refine HD3_chg rfl rfl ?_; simp [h2, h3, h3b])
    | (refine HD3_nil (hC _ _ (by kernel_rfl) (by kernel_rfl)) (hk _ ?_); clear hC hk C k; simp only [RK_seq, RK_seq_ret, RK_seq_exit, RK_blk, RK_blk_ret, RK_blk_exit, RK_loop, RK_loop_ret, RK_loop_exit, RK_done]; simp [St.ins, insL, putE, getK_setOb, getK_cons])
    | (refine V_drawE rfl (by kernel_rfl) (by kernel_rfl) (by simp [hn]) fun C k hC hk => ?_; simp [h2, h3, h3b])
    | (refine HD_guardU rfl (by simp [h2, h3, h3b]) ?_; simp [h2, h3, h3b])
    | (refine HD_guard rfl (by simp [h2, h3, h3b]) (fun hc => ?_) (fun hc => ?_) <;> (try simp [h2, h3, h3b] at hc) <;> (try (exfalso; omega)) <;> (try simp [h2, h3, h3b]))
    | (refine HD2_guardU rfl (by simp [h2, h3, h3b]) ?_; simp [h2, h3, h3b])
    | (refine HD2_guard rfl (by simp [h2, h3, h3b]) (fun hc => ?_) (fun hc => ?_) <;> (try simp [h2, h3, h3b] at hc) <;> (try (exfalso; omega)) <;> (try simp [h2, h3, h3b]))
    | (refine V_sblock ?_; simp [h2, h3, h3b])
    | (refine V_sregion ?_; simp [h2, h3, h3b])
    | (refine V_ret ?_; simp only [RK_seq, RK_seq_ret, RK_seq_exit, RK_blk, RK_blk_ret, RK_blk_exit, RK_loop, RK_loop_ret, RK_loop_exit, RK_done])
    | (refine V_skip ?_; simp only [RK_seq, RK_seq_ret, RK_seq_exit, RK_blk, RK_blk_ret, RK_blk_exit, RK_loop, RK_loop_ret, RK_loop_exit, RK_done])
    | (refine V_exit ?_; simp [RK_seq, RK_seq_ret, RK_seq_exit, RK_blk, RK_blk_ret, RK_blk_exit, RK_loop, RK_loop_ret, RK_loop_exit, RK_done])
    | (refine ⟨?_, by omega⟩)
    | (refine ⟨fun hc => ?_, fun hc => ?_⟩ <;> (try (exfalso; omega)))
    | (intro hc <;> (try (exfalso; omega)))
    | (refine CallV.fun_ (hvf) (by first | rfl | fail) (by first | assumption | (simp; done) | fail) (by first | (simp [h2, h3, h3b]; done) | (simp [h2, h3, h3b]; rfl) | fail) (by first | (simp; done) | fail) ?_ <;> (try simp [h2, h3, h3b]))
    | (refine CallP.fun_ (hvf) (by first | rfl | fail) (by first | assumption | (simp; done) | fail) (by first | (simp [h2, h3, h3b]; done) | (simp [h2, h3, h3b]; rfl) | fail) (by first | (simp; done) | fail) (fun d hd => ?_); subst hd; (try simp [h2, h3, h3b])))
    all_goals
      (refine EndOK.val (.inr rfl) ?_; simp [resD, oneOrTup, pureD, Try.results9])
  obtain ⟨h1, h0, h2, h3, h5, h4, hk0, hk3⟩ := okN_true hv
  rw [h1] at hvf
  have h2b : ¬ l.length = 0 := fun h => h2 (List.eq_nil_of_length_eq_zero h)
  have hne : had ≠ [] := fun h => by subst h; exact h2b h3.symm
  have hmf := min_fun had hh hne
  have hif := index_fun had (minS had) hh
  rw [idxS_min hne] at hif
  have h3b : (had.length : Int) = l.length := by omega
  have h4b : ¬ minS had < 0 := by omega
  have h5b : ¬ period < 0 := by omega
  by_cases hk2 : kind = 2
  · subst hk2
    have ho : nextS l had 2 seed period = (l.getD (lst had) 0, true) := by simp [nextS, hv]
    rw [ho]
    have hlt : lst had < l.length := by have := lst_lt hne; omega
    (refine Fun.of_body Try.func9 rfl (by simp) fun Γ hn => ?_); simp only [entry, List.zipIdx_cons, List.zipIdx_nil, List.map_cons, List.map_nil, Nat.zero_add, Try.ntmps9]
    repeat' (first
    | (refine H_cons ?_; simp [h2, h3, h3b, h4b, h5b, hlt])
    | (refine HD2_val rfl ?_; simp [h2, h3, h3b, h4b, h5b, hlt])
    | (refine HD_cons ?_; simp [h2, h3, h3b, h4b, h5b, hlt])
    | (refine HD2_chg rfl ?_; simp [h2, h3, h3b, h4b, h5b, hlt])
    | (refine H_nil ?_; simp [h2, h3, h3b, h4b, h5b, hlt])
    | (refine ⟨by omega, ?_⟩)
    | (refine V_sseq ?_; simp [h2, h3, h3b, h4b, h5b, hlt])
    | (refine V_scond ?_; simp [h2, h3, h3b, h4b, h5b, hlt])
    | (refine HD2_nil (hC _ (by kernel_rfl)) (hk _ ?_); clear hC hk C k; simp only [RK_seq, RK_seq_ret, RK_seq_exit, RK_blk, RK_blk_ret, RK_blk_exit, RK_loop, RK_loop_ret, RK_loop_exit, RK_done])
    | (refine HD_nil ?_)
    | (refine hk _ ?_; clear hk k; simp only [RK_seq, RK_seq_ret, RK_seq_exit, RK_blk, RK_blk_ret, RK_blk_exit, RK_loop, RK_loop_ret, RK_loop_exit, RK_done])
    | (refine V_drawV rfl (by kernel_rfl) (by kernel_rfl) fun k hk => ?_; simp [h2, h3, h3b, h4b, h5b, hlt])
    | (refine V_drawN rfl (by kernel_rfl) (by kernel_rfl) (by simp [hn]) fun C k hC hk => ?_; simp [h2, h3, h3b, h4b, h5b, hlt])
    | (refine HD3_val rfl ?_; simp [h2, h3, h3b, h4b, h5b, hlt])
    | (refine HD3_put ?_; simp [h2, h3, h3b, h4b, h5b, hlt])
    | (refine HD3_chg rfl rfl ?_; simp [h2, h3, h3b, h4b, h5b, hlt])
    | (refine HD3_nil (hC _ _ (by kernel_rfl) (by kernel_rfl)) (hk _ ?_); clear hC hk C k; simp only [RK_seq, RK_seq_ret, RK_seq_exit, RK_blk, RK_blk_ret, RK_blk_exit, RK_loop, RK_loop_ret, RK_loop_exit, RK_done]; simp [St.ins, insL, putE, getK_setOb, getK_cons])
    | (refine V_drawE rfl (by kernel_rfl) (by kernel_rfl) (by simp [hn]) fun C k hC hk => ?_; simp [h2, h3, h3b, h4b, h5b, hlt])
    | (refine HD_guardU rfl (by simp [h2, h3, h3b, h4b, h5b, hlt]) ?_; simp [h2, h3, h3b, h4b, h5b, hlt])
    | (refine HD_guard rfl (by simp [h2, h3, h3b, h4b, h5b, hlt]) (fun hc => ?_) (fun hc => ?_) <;> (try simp [h2, h3, h3b, h4b, h5b, hlt] at hc) <;> (try (exfalso; omega)) <;> (try simp [h2, h3, h3b, h4b, h5b, hlt]))
    | (refine HD2_guardU rfl (by simp [h2, h3, h3b, h4b, h5b, hlt]) ?_; simp [h2, h3, h3b, h4b, h5b, hlt])
    | (refine HD2_guard rfl (by simp [h2, h3, h3b, h4b, h5b, hlt]) (fun hc => ?_) (fun hc => ?_) <;> (try simp [h2, h3, h3b, h4b, h5b, hlt] at hc) <;> (try (exfalso; omega)) <;> (try simp [h2, h3, h3b, h4b, h5b, hlt]))
    | (refine V_sblock ?_; simp [h2, h3, h3b, h4b, h5b, hlt])
    | (refine V_sregion ?_; simp [h2, h3, h3b, h4b, h5b, hlt])
    | (refine V_ret ?_; simp only [RK_seq, RK_seq_ret, RK_seq_exit, RK_blk, RK_blk_ret, RK_blk_exit, RK_loop, RK_loop_ret, RK_loop_exit, RK_done])
    | (refine V_skip ?_; simp only [RK_seq, RK_seq_ret, RK_seq_exit, RK_blk, RK_blk_ret, RK_blk_exit, RK_loop, RK_loop_ret, RK_loop_exit, RK_done])
    | (refine V_exit ?_; simp [RK_seq, RK_seq_ret, RK_seq_exit, RK_blk, RK_blk_ret, RK_blk_exit, RK_loop, RK_loop_ret, RK_loop_exit, RK_done])
    | (refine ⟨?_, by omega⟩)
    | (refine ⟨fun hc => ?_, fun hc => ?_⟩ <;> (try (exfalso; omega)))
    | (intro hc <;> (try (exfalso; omega)))
    | (refine CallV.fun_ (hvf) (by first | rfl | fail) (by first | assumption | (simp; done) | fail) (by first | (simp [h2, h3, h3b, h4b, h5b, hlt]; done) | (simp [h2, h3, h3b, h4b, h5b, hlt]; rfl) | fail) (by first | (simp; done) | fail) ?_ <;> (try simp [h2, h3, h3b, h4b, h5b, hlt]))
    | (refine CallP.fun_ (hvf) (by first | rfl | fail) (by first | assumption | (simp; done) | fail) (by first | (simp [h2, h3, h3b, h4b, h5b, hlt]; done) | (simp [h2, h3, h3b, h4b, h5b, hlt]; rfl) | fail) (by first | (simp; done) | fail) (fun d hd => ?_); subst hd; (try simp [h2, h3, h3b, h4b, h5b, hlt]))
    | (refine CallV.fun_ (hmf) (by first | rfl | fail) (by first | assumption | (simp; done) | fail) (by first | (simp [h2, h3, h3b, h4b, h5b, hlt]; done) | (simp [h2, h3, h3b, h4b, h5b, hlt]; rfl) | fail) (by first | (simp; done) | fail) ?_ <;> (try simp [h2, h3, h3b, h4b, h5b, hlt]))
    | (refine CallP.fun_ (hmf) (by first | rfl | fail) (by first | assumption | (simp; done) | fail) (by first | (simp [h2, h3, h3b, h4b, h5b, hlt]; done) | (simp [h2, h3, h3b, h4b, h5b, hlt]; rfl) | fail) (by first | (simp; done) | fail) (fun d hd => ?_); subst hd; (try simp [h2, h3, h3b, h4b, h5b, hlt]))
    | (refine CallV.fun_ (hif) (by first | rfl | fail) (by first | assumption | (simp; done) | fail) (by first | (simp [h2, h3, h3b, h4b, h5b, hlt]; done) | (simp [h2, h3, h3b, h4b, h5b, hlt]; rfl) | fail) (by first | (simp; done) | fail) ?_ <;> (try simp [h2, h3, h3b, h4b, h5b, hlt]))
    | (refine CallP.fun_ (hif) (by first | rfl | fail) (by first | assumption | (simp; done) | fail) (by first | (simp [h2, h3, h3b, h4b, h5b, hlt]; done) | (simp [h2, h3, h3b, h4b, h5b, hlt]; rfl) | fail) (by first | (simp; done) | fail) (fun d hd => ?_); subst hd; (try simp [h2, h3, h3b, h4b, h5b, hlt])))
    all_goals
      (refine EndOK.val (.inr rfl) ?_; simp [resD, oneOrTup, pureD, Try.results9])
      try simp [hlt]
  · have ho : nextS l had kind seed period = ((orderS l kind seed).getD (period.toNat % l.length) 0, true) := by simp [nextS, hv, hk2]
    rw [ho]
    have hof := order_fun l kind seed hl
    have hol := orderS_length (seed := seed) h1
    generalize orderS l kind seed = o at hof hol
    obtain ⟨P, rfl⟩ := Int.eq_ofNat_of_zero_le h5
    have hpm : (P : Int).tmod (l.length : Int) = ((P % l.length : Nat) : Int) := (Int.ofNat_tmod P l.length).symm
    have hpm2 : ((P : Int) % (l.length : Int)).toNat = P % l.length := by rw [← Int.natCast_emod, Int.toNat_natCast]
    have hlt : P % l.length < o.length := by rw [hol]; exact Nat.mod_lt _ (by omega)
    have hlt2 : P % l.length < l.length := by rw [hol] at hlt; exact hlt
    simp only [Int.toNat_natCast]
    (refine Fun.of_body Try.func9 rfl (by simp) fun Γ hn => ?_); simp only [entry, List.zipIdx_cons, List.zipIdx_nil, List.map_cons, List.map_nil, Nat.zero_add, Try.ntmps9]
    repeat' (first
    | (refine H_cons ?_; simp [h2, h3, h3b, h4b, h5b, hk2, hpm, hpm2, hlt2, hol])
    | (refine HD2_val rfl ?_; simp [h2, h3, h3b, h4b, h5b, hk2, hpm, hpm2, hlt2, hol])
    | (refine HD_cons ?_; simp [h2, h3, h3b, h4b, h5b, hk2, hpm, hpm2, hlt2, hol])
    | (refine HD2_chg rfl ?_; simp [h2, h3, h3b, h4b, h5b, hk2, hpm, hpm2, hlt2, hol])
    | (refine H_nil ?_; simp [h2, h3, h3b, h4b, h5b, hk2, hpm, hpm2, hlt2, hol])
    | (refine ⟨by omega, ?_⟩)
    | (refine V_sseq ?_; simp [h2, h3, h3b, h4b, h5b, hk2, hpm, hpm2, hlt2, hol])
    | (refine V_scond ?_; simp [h2, h3, h3b, h4b, h5b, hk2, hpm, hpm2, hlt2, hol])
    | (refine HD2_nil (hC _ (by kernel_rfl)) (hk _ ?_); clear hC hk C k; simp only [RK_seq, RK_seq_ret, RK_seq_exit, RK_blk, RK_blk_ret, RK_blk_exit, RK_loop, RK_loop_ret, RK_loop_exit, RK_done])
    | (refine HD_nil ?_)
    | (refine hk _ ?_; clear hk k; simp only [RK_seq, RK_seq_ret, RK_seq_exit, RK_blk, RK_blk_ret, RK_blk_exit, RK_loop, RK_loop_ret, RK_loop_exit, RK_done])
    | (refine V_drawV rfl (by kernel_rfl) (by kernel_rfl) fun k hk => ?_; simp [h2, h3, h3b, h4b, h5b, hk2, hpm, hpm2, hlt2, hol])
    | (refine V_drawN rfl (by kernel_rfl) (by kernel_rfl) (by simp [hn]) fun C k hC hk => ?_; simp [h2, h3, h3b, h4b, h5b, hk2, hpm, hpm2, hlt2, hol])
    | (refine HD3_val rfl ?_; simp [h2, h3, h3b, h4b, h5b, hk2, hpm, hpm2, hlt2, hol])
    | (refine HD3_put ?_; simp [h2, h3, h3b, h4b, h5b, hk2, hpm, hpm2, hlt2, hol])
    | (refine HD3_chg rfl rfl ?_; simp [h2, h3, h3b, h4b, h5b, hk2, hpm, hpm2, hlt2, hol])
    | (refine HD3_nil (hC _ _ (by kernel_rfl) (by kernel_rfl)) (hk _ ?_); clear hC hk C k; simp only [RK_seq, RK_seq_ret, RK_seq_exit, RK_blk, RK_blk_ret, RK_blk_exit, RK_loop, RK_loop_ret, RK_loop_exit, RK_done]; simp [St.ins, insL, putE, getK_setOb, getK_cons])
    | (refine V_drawE rfl (by kernel_rfl) (by kernel_rfl) (by simp [hn]) fun C k hC hk => ?_; simp [h2, h3, h3b, h4b, h5b, hk2, hpm, hpm2, hlt2, hol])
    | (refine HD_guardU rfl (by simp [h2, h3, h3b, h4b, h5b, hk2, hpm, hpm2, hlt2, hol]) ?_; simp [h2, h3, h3b, h4b, h5b, hk2, hpm, hpm2, hlt2, hol])
    | (refine HD_guard rfl (by simp [h2, h3, h3b, h4b, h5b, hk2, hpm, hpm2, hlt2, hol]) (fun hc => ?_) (fun hc => ?_) <;> (try simp [h2, h3, h3b, h4b, h5b, hk2, hpm, hpm2, hlt2, hol] at hc) <;> (try (exfalso; omega)) <;> (try simp [h2, h3, h3b, h4b, h5b, hk2, hpm, hpm2, hlt2, hol]))
    | (refine HD2_guardU rfl (by simp [h2, h3, h3b, h4b, h5b, hk2, hpm, hpm2, hlt2, hol]) ?_; simp [h2, h3, h3b, h4b, h5b, hk2, hpm, hpm2, hlt2, hol])
    | (refine HD2_guard rfl (by simp [h2, h3, h3b, h4b, h5b, hk2, hpm, hpm2, hlt2, hol]) (fun hc => ?_) (fun hc => ?_) <;> (try simp [h2, h3, h3b, h4b, h5b, hk2, hpm, hpm2, hlt2, hol] at hc) <;> (try (exfalso; omega)) <;> (try simp [h2, h3, h3b, h4b, h5b, hk2, hpm, hpm2, hlt2, hol]))
    | (refine V_sblock ?_; simp [h2, h3, h3b, h4b, h5b, hk2, hpm, hpm2, hlt2, hol])
    | (refine V_sregion ?_; simp [h2, h3, h3b, h4b, h5b, hk2, hpm, hpm2, hlt2, hol])
    | (refine V_ret ?_; simp only [RK_seq, RK_seq_ret, RK_seq_exit, RK_blk, RK_blk_ret, RK_blk_exit, RK_loop, RK_loop_ret, RK_loop_exit, RK_done])
    | (refine V_skip ?_; simp only [RK_seq, RK_seq_ret, RK_seq_exit, RK_blk, RK_blk_ret, RK_blk_exit, RK_loop, RK_loop_ret, RK_loop_exit, RK_done])
    | (refine V_exit ?_; simp [RK_seq, RK_seq_ret, RK_seq_exit, RK_blk, RK_blk_ret, RK_blk_exit, RK_loop, RK_loop_ret, RK_loop_exit, RK_done])
    | (refine ⟨?_, by omega⟩)
    | (refine ⟨fun hc => ?_, fun hc => ?_⟩ <;> (try (exfalso; omega)))
    | (intro hc <;> (try (exfalso; omega)))
    | (refine CallV.fun_ (hvf) (by first | rfl | fail) (by first | assumption | (simp; done) | fail) (by first | (simp [h2, h3, h3b, h4b, h5b, hk2, hpm, hpm2, hlt2, hol]; done) | (simp [h2, h3, h3b, h4b, h5b, hk2, hpm, hpm2, hlt2, hol]; rfl) | fail) (by first | (simp; done) | fail) ?_ <;> (try simp [h2, h3, h3b, h4b, h5b, hk2, hpm, hpm2, hlt2, hol]))
    | (refine CallP.fun_ (hvf) (by first | rfl | fail) (by first | assumption | (simp; done) | fail) (by first | (simp [h2, h3, h3b, h4b, h5b, hk2, hpm, hpm2, hlt2, hol]; done) | (simp [h2, h3, h3b, h4b, h5b, hk2, hpm, hpm2, hlt2, hol]; rfl) | fail) (by first | (simp; done) | fail) (fun d hd => ?_); subst hd; (try simp [h2, h3, h3b, h4b, h5b, hk2, hpm, hpm2, hlt2, hol]))
    | (refine CallV.fun_ (hmf) (by first | rfl | fail) (by first | assumption | (simp; done) | fail) (by first | (simp [h2, h3, h3b, h4b, h5b, hk2, hpm, hpm2, hlt2, hol]; done) | (simp [h2, h3, h3b, h4b, h5b, hk2, hpm, hpm2, hlt2, hol]; rfl) | fail) (by first | (simp; done) | fail) ?_ <;> (try simp [h2, h3, h3b, h4b, h5b, hk2, hpm, hpm2, hlt2, hol]))
    | (refine CallP.fun_ (hmf) (by first | rfl | fail) (by first | assumption | (simp; done) | fail) (by first | (simp [h2, h3, h3b, h4b, h5b, hk2, hpm, hpm2, hlt2, hol]; done) | (simp [h2, h3, h3b, h4b, h5b, hk2, hpm, hpm2, hlt2, hol]; rfl) | fail) (by first | (simp; done) | fail) (fun d hd => ?_); subst hd; (try simp [h2, h3, h3b, h4b, h5b, hk2, hpm, hpm2, hlt2, hol]))
    | (refine CallV.fun_ (hof) (by first | rfl | fail) (by first | assumption | (simp; done) | fail) (by first | (simp [h2, h3, h3b, h4b, h5b, hk2, hpm, hpm2, hlt2, hol]; done) | (simp [h2, h3, h3b, h4b, h5b, hk2, hpm, hpm2, hlt2, hol]; rfl) | fail) (by first | (simp; done) | fail) ?_ <;> (try simp [h2, h3, h3b, h4b, h5b, hk2, hpm, hpm2, hlt2, hol]))
    | (refine CallP.fun_ (hof) (by first | rfl | fail) (by first | assumption | (simp; done) | fail) (by first | (simp [h2, h3, h3b, h4b, h5b, hk2, hpm, hpm2, hlt2, hol]; done) | (simp [h2, h3, h3b, h4b, h5b, hk2, hpm, hpm2, hlt2, hol]; rfl) | fail) (by first | (simp; done) | fail) (fun d hd => ?_); subst hd; (try simp [h2, h3, h3b, h4b, h5b, hk2, hpm, hpm2, hlt2, hol])))
    all_goals
      (refine EndOK.val (.inr rfl) ?_; simp [resD, oneOrTup, pureD, Try.results9])
      try simp [hlt, hol, hlt2]
end Go.Proofs.Ytmebfcehkfaiaaa
