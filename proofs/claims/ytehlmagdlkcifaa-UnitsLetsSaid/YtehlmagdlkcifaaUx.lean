/- parted: it returns true for every part of right bylaws that has a unit. -/
import Derived.Test.YtehlmagdlkcifaaUs
set_option linter.all false
set_option maxRecDepth 100000
set_option maxHeartbeats 8000000
namespace Go.Proofs.Ytehlmagdlkcifaa
open Go Go.VL
theorem rightB_mono : ∀ (d : Nat) (e : Exp), rightB d e = true → rightB (d + 1) e = true
  | 0, e, h => by simp [rightB] at h
  | d + 1, e, h => by
    have ih := fun x => rightB_mono d x
    rw [rightB] at h ⊢
    by_cases h0 : e.op = 0
    · simpa [h0] using h
    · by_cases h1 : e.op = 1
      · simpa [h0, h1] using h
      · simp only [h0, h1, if_false, Bool.and_eq_true, decide_eq_true_eq] at h ⊢
        refine ⟨h.1, ?_⟩
        have h2 := h.2
        split at h2
        · cases h2
        · rename_i hz
          rw [if_neg hz]
          simp only [Bool.and_eq_true, decide_eq_true_eq, Bool.not_eq_true', List.any_eq_false] at h2 ⊢
          exact ⟨h2.1, fun x hx => by simpa using ih x (by simpa using h2.2 x hx)⟩
theorem rightB_le {d n : Nat} {e : Exp} (hd : d ≤ n) (h : rightB d e = true) : rightB n e = true := by
  induction n with
  | zero => obtain rfl : d = 0 := by omega
            exact h
  | succ n ih =>
    by_cases hdn : d = n + 1
    · subst hdn; exact h
    · exact rightB_mono n e (ih (by omega))
theorem unitsS_of_ok {g m} : ∀ {l : List Exp} {r : List Int}, unitsS g m l = .ok r → (∀ x ∈ l, (unitS g m x).2 = 0) ∧ r = l.map fun x => (unitS g m x).1
  | [], r, h => by rw [unitsS] at h; cases h; simp
  | e :: l, r, h => by
    rw [unitsS] at h
    split at h
    · cases h
    · rename_i hz
      split at h
      · cases h
      · rename_i r' hr
        cases h
        have := unitsS_of_ok hr
        refine ⟨fun x hx => ?_, by rw [this.2]; rfl⟩
        rcases List.mem_cons.1 hx with rfl | hx
        · simpa using hz
        · exact this.1 x hx
theorem unitsS_ne {g m} : ∀ {l : List Exp} {b : Int}, unitsS g m l = .error b → b ≠ 0
  | [], b, h => by rw [unitsS] at h; cases h
  | e :: l, b, h => by
    rw [unitsS] at h
    split at h
    · rename_i hz
      cases h
      exact hz
    · split at h
      · rename_i hr
        cases h
        exact unitsS_ne hr
      · cases h
theorem scOf_range {given : List Var} {lets : List Let} (hg : ∀ v ∈ given, unitOK v = true) (hr : ∀ l ∈ lets, rightB 12 l.body = true) : ∀ p ∈ scOf given lets, inR p.2.1 := by
  unfold scOf
  have : ∀ (l : List Let) (s : SC), (∀ x ∈ l, rightB 12 x.body = true) → (∀ p ∈ s, inR p.2.1) → ∀ p ∈ l.foldl (fun sc l => sc ++ [(l.name, unitS (firstG given) (lastA sc) l.body)]) s, inR p.2.1 := by
    intro l
    induction l with
    | nil => intro s _ h; exact h
    | cons a l ih =>
      intro s h1 h2
      rw [List.foldl_cons]
      refine ih _ (fun x hx => h1 x (by simp [hx])) fun p hp => ?_
      rcases List.mem_append.1 hp with hp | hp
      · exact h2 p hp
      · simp at hp
        subst hp
        exact unit_range (firstG_range hg) (lastA_range h2) 12 a.body (h1 a (by simp))
  exact this lets [] hr (by simp)
attribute [local simp] hcons hstep evPure opd uOf putOK St.put St.at getK binD binI binS binB nilD aggD eqUs cmpK lookD lookR rangeD nextD entryD keyD valU keyU lookK mkV entD_nil lookK_entD updK_entD1 updK_entD2 updK_entD3 allUE allUE_entD makeMapD mapUpdD mapEff updK valM Key.kk shiftI arith unD convD pickD loadD cellsAt fieldAddrD fieldD indexAddrD indexD sliceD cutD lenD minmaxD nilCheckD buildD fillD cellsD isOne ones setAll mkAgg allU allocD boxD storeD St.add buildSliceD appendD rowsOf makeD setOb getK_setOb getK_del getK_cons stripL strip guardTmp entry chunks zcells valD argsV argsW argW argU1 argU0 argsU0 argsU1 calleeOf scalarD scalarU delAll effD St.effS RK_seq RK_seq_ret RK_seq_exit RK_blk RK_blk_ret RK_blk_exit RK_loop RK_loop_ret RK_loop_exit RK_done vs_seq vs_block vs_skip vs_label vs_exit vs_ret vs_cond vs_region vs_loop vs_draw vs_range vs_scope applyW mkD rdIds lentIds callOf calleeOf freeOp D.ids Op.operands Call.operands isEffOp IntKind.bits allU2 allU2_append List.take_of_length_le List.range_succ
attribute [local irreducible] V G H HD HD2 RunK Eff CallP CallV EndOK Fun Ret FinOK LoopI LoopW EndW
theorem parted_fun (lets : List Let) (given : List Var) (h20 : lets.length ≤ 20) (hr : ∀ l ∈ lets, rightB 12 l.body = true) (hg : ∀ v ∈ given, unitOK v = true) : ∀ (d : Nat) (e : Exp), d ≤ 12 → rightB d e = true → (unitF lets given e).2 = 0 →
    Fun Try.prog 23 [.u (letsU lets), .u (varsU given), eagg e] (· = .u (.bool true))
  | 0, e, _, h, _ => by simp [rightB] at h
  | d + 1, e, hd, h, hu => by
    have hP : ∀ (k : Nat) (x : Exp), k ≤ 12 → rightB k x = true → unitP lets given x = unitF lets given x := fun k x hk hx => by
      rw [unitP_F, if_pos]
      simp only [Bool.and_eq_true, rightAll, decide_eq_true_eq, Bool.not_eq_true', List.any_eq_false, List.all_eq_true]
      exact ⟨⟨⟨h20, rightB_le hk hx⟩, fun l hl => by simp [hr l hl]⟩, hg⟩
    have hrange : ∀ (k : Nat) (x : Exp), rightB k x = true → inR (unitF lets given x).1 := fun k x hx => unit_range (firstG_range hg) (lastA_range (scOf_range hg hr)) k x hx
    obtain ⟨h1, h2, h3, h4⟩ := right_args h
    have h5 := unitOf_fun lets given e
    rw [hP _ e hd h] at h5
    have hin := hrange _ e h
    by_cases h01 : e.op = 0 ∨ e.op = 1
    · have hn : e.args = [] := by
        have : (e.args.length : Int) = 0 := by rw [h1]; rcases h01 with h | h <;> simp [h, operandsI]
        exact List.eq_nil_of_length_eq_zero (by omega)
      have hun : e.op = 0 → (unitF lets given e).1 = e.unit := fun h0 => by rw [unitF, unitS_eq, if_pos h0]
      simp only [eagg, letsU, varsU, hn, List.map_nil] at h5 ⊢
      generalize unitF lets given e = r at h5 hu hin hun
      obtain ⟨u, er⟩ := r
      simp only at hu hin hun h5
      subst hu
      obtain ⟨hin1, hin2⟩ := hin
      rcases h01 with hop | hop
      · obtain rfl : u = e.unit := hun hop
        (refine Fun.of_body Try.func23 rfl (by simp) fun Γ hn => ?_); simp only [entry, List.zipIdx_cons, List.zipIdx_nil, List.map_cons, List.map_nil, Nat.zero_add, Try.ntmps23]
        repeat' (first
    | (refine H_cons ?_; simp [hop])
    | (refine HD2_val rfl ?_; simp [hop])
    | (refine HD_cons ?_; simp [hop])
    | (refine HD2_chg rfl ?_; simp [hop])
    | (refine H_nil ?_; simp [hop])
    | (refine ⟨by omega, ?_⟩)
    | (refine V_sseq ?_; simp [hop])
    | (refine V_scond ?_; simp [hop])
    | (refine HD2_nil (hC _ (by kernel_rfl)) (hk _ ?_); clear hC hk C k; simp only [RK_seq, RK_seq_ret, RK_seq_exit, RK_blk, RK_blk_ret, RK_blk_exit, RK_loop, RK_loop_ret, RK_loop_exit, RK_done])
    | (refine HD_nil ?_)
    | (refine hk _ ?_; clear hk k; simp only [RK_seq, RK_seq_ret, RK_seq_exit, RK_blk, RK_blk_ret, RK_blk_exit, RK_loop, RK_loop_ret, RK_loop_exit, RK_done])
    | (refine V_drawV rfl (by kernel_rfl) (by kernel_rfl) fun k hk => ?_; simp [hop])
    | (refine V_drawN rfl (by kernel_rfl) (by kernel_rfl) (by simp [hn]) fun C k hC hk => ?_; simp [hop])
    | (refine HD3_val rfl ?_; simp [hop])
    | (refine HD3_put ?_; simp [hop])
    | (refine HD3_chg rfl rfl ?_; simp [hop])
    | (refine HD3_nil (hC _ _ (by kernel_rfl) (by kernel_rfl)) (hk _ ?_); clear hC hk C k; simp only [RK_seq, RK_seq_ret, RK_seq_exit, RK_blk, RK_blk_ret, RK_blk_exit, RK_loop, RK_loop_ret, RK_loop_exit, RK_done]; simp [St.ins, insL, putE, getK_setOb, getK_cons])
    | (refine V_drawE rfl (by kernel_rfl) (by kernel_rfl) (by simp [hn]) fun C k hC hk => ?_; simp [hop])
    | (refine HD_guardU rfl (by simp [hop]) ?_; simp [hop])
    | (refine HD_guard rfl (by simp [hop]) (fun hc => ?_) (fun hc => ?_) <;> (try simp [hop] at hc) <;> (try (exfalso; omega)) <;> (try simp [hop]))
    | (refine HD2_guardU rfl (by simp [hop]) ?_; simp [hop])
    | (refine HD2_guard rfl (by simp [hop]) (fun hc => ?_) (fun hc => ?_) <;> (try simp [hop] at hc) <;> (try (exfalso; omega)) <;> (try simp [hop]))
    | (refine V_sblock ?_; simp [hop])
    | (refine V_sregion ?_; simp [hop])
    | (refine V_ret ?_; simp only [RK_seq, RK_seq_ret, RK_seq_exit, RK_blk, RK_blk_ret, RK_blk_exit, RK_loop, RK_loop_ret, RK_loop_exit, RK_done])
    | (refine V_skip ?_; simp only [RK_seq, RK_seq_ret, RK_seq_exit, RK_blk, RK_blk_ret, RK_blk_exit, RK_loop, RK_loop_ret, RK_loop_exit, RK_done])
    | (refine V_exit ?_; simp [RK_seq, RK_seq_ret, RK_seq_exit, RK_blk, RK_blk_ret, RK_blk_exit, RK_loop, RK_loop_ret, RK_loop_exit, RK_done])
    | (refine ⟨?_, by omega⟩)
    | (refine ⟨fun hc => ?_, fun hc => ?_⟩ <;> (try (exfalso; omega)))
    | (intro hc <;> (try (exfalso; omega)))
    | (refine CallV.fun_ (h5) (by first | rfl | fail) (by first | assumption | (simp; done) | fail) (by first | (simp [hop]; done) | (simp [hop]; rfl) | fail) (by first | (simp; done) | fail) ?_ <;> (try simp [hop]))
    | (refine CallP.fun_ (h5) (by first | rfl | fail) (by first | assumption | (simp; done) | fail) (by first | (simp [hop]; done) | (simp [hop]; rfl) | fail) (by first | (simp; done) | fail) (fun d hd => ?_); subst hd; (try simp [hop])))
        all_goals first | omega | skip
        refine V_wk _ (Wk.own 9 3 1 (by decide) rfl) ?_
        simp [St.own]
        refine V_loopO (α := Unit) [0, 1, 5, 7]
          (fun _ => [(9, .vec 1 0), (10, .u (.int .i64 0))]) (fun _ => [(1, .vec 3 1 []), (0, .box [.u (.int .i64 e.op), .u (.int .i64 e.n), .u (.int .i64 e.unit), .u (.str e.s), .u (.sl [])])]) 2
          (fun _ => 0) () ?_ ?_
        · exact (Wk.cut rfl (by simp [hn]) (by simp [wkO, St.lp, getK_cons, getK, Ob.under, D.under, under_rowsD, under_entD, hop]) (by simp [wkU, St.lp, keepE, getK_cons, getK, D.under, hop]) (by simp [wkE, St.lp, keepE, getK_cons, getK, hop] <;> (try (intros; simp_all; done)) <;> (try (intros; omega)) <;> (try grind)))
        rintro ⟨⟩
        simp [St.lp, St.only, keepE, getK_cons, getK]
        repeat' (first
    | (refine H_cons ?_; simp [hop])
    | (refine HD2_val rfl ?_; simp [hop])
    | (refine HD_cons ?_; simp [hop])
    | (refine HD2_chg rfl ?_; simp [hop])
    | (refine H_nil ?_; simp [hop])
    | (refine ⟨by omega, ?_⟩)
    | (refine V_sseq ?_; simp [hop])
    | (refine V_scond ?_; simp [hop])
    | (refine HD2_nil (hC _ (by kernel_rfl)) (hk _ ?_); clear hC hk C k; simp only [RK_seq, RK_seq_ret, RK_seq_exit, RK_blk, RK_blk_ret, RK_blk_exit, RK_loop, RK_loop_ret, RK_loop_exit, RK_done])
    | (refine HD_nil ?_)
    | (refine hk _ ?_; clear hk k; simp only [RK_seq, RK_seq_ret, RK_seq_exit, RK_blk, RK_blk_ret, RK_blk_exit, RK_loop, RK_loop_ret, RK_loop_exit, RK_done])
    | (refine V_drawV rfl (by kernel_rfl) (by kernel_rfl) fun k hk => ?_; simp [hop])
    | (refine V_drawN rfl (by kernel_rfl) (by kernel_rfl) (by simp [hn]) fun C k hC hk => ?_; simp [hop])
    | (refine HD3_val rfl ?_; simp [hop])
    | (refine HD3_put ?_; simp [hop])
    | (refine HD3_chg rfl rfl ?_; simp [hop])
    | (refine HD3_nil (hC _ _ (by kernel_rfl) (by kernel_rfl)) (hk _ ?_); clear hC hk C k; simp only [RK_seq, RK_seq_ret, RK_seq_exit, RK_blk, RK_blk_ret, RK_blk_exit, RK_loop, RK_loop_ret, RK_loop_exit, RK_done]; simp [St.ins, insL, putE, getK_setOb, getK_cons])
    | (refine V_drawE rfl (by kernel_rfl) (by kernel_rfl) (by simp [hn]) fun C k hC hk => ?_; simp [hop])
    | (refine HD_guardU rfl (by simp [hop]) ?_; simp [hop])
    | (refine HD_guard rfl (by simp [hop]) (fun hc => ?_) (fun hc => ?_) <;> (try simp [hop] at hc) <;> (try (exfalso; omega)) <;> (try simp [hop]))
    | (refine HD2_guardU rfl (by simp [hop]) ?_; simp [hop])
    | (refine HD2_guard rfl (by simp [hop]) (fun hc => ?_) (fun hc => ?_) <;> (try simp [hop] at hc) <;> (try (exfalso; omega)) <;> (try simp [hop]))
    | (refine V_sblock ?_; simp [hop])
    | (refine V_sregion ?_; simp [hop])
    | (refine V_ret ?_; simp only [RK_seq, RK_seq_ret, RK_seq_exit, RK_blk, RK_blk_ret, RK_blk_exit, RK_loop, RK_loop_ret, RK_loop_exit, RK_done])
    | (refine V_skip ?_; simp only [RK_seq, RK_seq_ret, RK_seq_exit, RK_blk, RK_blk_ret, RK_blk_exit, RK_loop, RK_loop_ret, RK_loop_exit, RK_done])
    | (refine V_exit ?_; simp [RK_seq, RK_seq_ret, RK_seq_exit, RK_blk, RK_blk_ret, RK_blk_exit, RK_loop, RK_loop_ret, RK_loop_exit, RK_done])
    | (refine ⟨?_, by omega⟩)
    | (refine ⟨fun hc => ?_, fun hc => ?_⟩ <;> (try (exfalso; omega)))
    | (intro hc <;> (try (exfalso; omega))))
        all_goals
          (refine EndOK.val (.inr rfl) ?_; simp [resD, oneOrTup, pureD, Try.results23])
      · clear hun
        (refine Fun.of_body Try.func23 rfl (by simp) fun Γ hn => ?_); simp only [entry, List.zipIdx_cons, List.zipIdx_nil, List.map_cons, List.map_nil, Nat.zero_add, Try.ntmps23]
        repeat' (first
    | (refine H_cons ?_; simp [hop])
    | (refine HD2_val rfl ?_; simp [hop])
    | (refine HD_cons ?_; simp [hop])
    | (refine HD2_chg rfl ?_; simp [hop])
    | (refine H_nil ?_; simp [hop])
    | (refine ⟨by omega, ?_⟩)
    | (refine V_sseq ?_; simp [hop])
    | (refine V_scond ?_; simp [hop])
    | (refine HD2_nil (hC _ (by kernel_rfl)) (hk _ ?_); clear hC hk C k; simp only [RK_seq, RK_seq_ret, RK_seq_exit, RK_blk, RK_blk_ret, RK_blk_exit, RK_loop, RK_loop_ret, RK_loop_exit, RK_done])
    | (refine HD_nil ?_)
    | (refine hk _ ?_; clear hk k; simp only [RK_seq, RK_seq_ret, RK_seq_exit, RK_blk, RK_blk_ret, RK_blk_exit, RK_loop, RK_loop_ret, RK_loop_exit, RK_done])
    | (refine V_drawV rfl (by kernel_rfl) (by kernel_rfl) fun k hk => ?_; simp [hop])
    | (refine V_drawN rfl (by kernel_rfl) (by kernel_rfl) (by simp [hn]) fun C k hC hk => ?_; simp [hop])
    | (refine HD3_val rfl ?_; simp [hop])
    | (refine HD3_put ?_; simp [hop])
    | (refine HD3_chg rfl rfl ?_; simp [hop])
    | (refine HD3_nil (hC _ _ (by kernel_rfl) (by kernel_rfl)) (hk _ ?_); clear hC hk C k; simp only [RK_seq, RK_seq_ret, RK_seq_exit, RK_blk, RK_blk_ret, RK_blk_exit, RK_loop, RK_loop_ret, RK_loop_exit, RK_done]; simp [St.ins, insL, putE, getK_setOb, getK_cons])
    | (refine V_drawE rfl (by kernel_rfl) (by kernel_rfl) (by simp [hn]) fun C k hC hk => ?_; simp [hop])
    | (refine HD_guardU rfl (by simp [hop]) ?_; simp [hop])
    | (refine HD_guard rfl (by simp [hop]) (fun hc => ?_) (fun hc => ?_) <;> (try simp [hop] at hc) <;> (try (exfalso; omega)) <;> (try simp [hop]))
    | (refine HD2_guardU rfl (by simp [hop]) ?_; simp [hop])
    | (refine HD2_guard rfl (by simp [hop]) (fun hc => ?_) (fun hc => ?_) <;> (try simp [hop] at hc) <;> (try (exfalso; omega)) <;> (try simp [hop]))
    | (refine V_sblock ?_; simp [hop])
    | (refine V_sregion ?_; simp [hop])
    | (refine V_ret ?_; simp only [RK_seq, RK_seq_ret, RK_seq_exit, RK_blk, RK_blk_ret, RK_blk_exit, RK_loop, RK_loop_ret, RK_loop_exit, RK_done])
    | (refine V_skip ?_; simp only [RK_seq, RK_seq_ret, RK_seq_exit, RK_blk, RK_blk_ret, RK_blk_exit, RK_loop, RK_loop_ret, RK_loop_exit, RK_done])
    | (refine V_exit ?_; simp [RK_seq, RK_seq_ret, RK_seq_exit, RK_blk, RK_blk_ret, RK_blk_exit, RK_loop, RK_loop_ret, RK_loop_exit, RK_done])
    | (refine ⟨?_, by omega⟩)
    | (refine ⟨fun hc => ?_, fun hc => ?_⟩ <;> (try (exfalso; omega)))
    | (intro hc <;> (try (exfalso; omega)))
    | (refine CallV.fun_ (h5) (by first | rfl | fail) (by first | assumption | (simp; done) | fail) (by first | (simp [hop]; done) | (simp [hop]; rfl) | fail) (by first | (simp; done) | fail) ?_ <;> (try simp [hop]))
    | (refine CallP.fun_ (h5) (by first | rfl | fail) (by first | assumption | (simp; done) | fail) (by first | (simp [hop]; done) | (simp [hop]; rfl) | fail) (by first | (simp; done) | fail) (fun d hd => ?_); subst hd; (try simp [hop])))
        all_goals first | omega | skip
        refine V_wk _ (Wk.own 9 3 1 (by decide) rfl) ?_
        simp [St.own]
        refine V_loopO (α := Unit) [0, 1, 5, 7]
          (fun _ => [(9, .vec 1 0), (10, .u (.int .i64 0))]) (fun _ => [(1, .vec 3 1 []), (0, .box [.u (.int .i64 e.op), .u (.int .i64 e.n), .u (.int .i64 e.unit), .u (.str e.s), .u (.sl [])])]) 2
          (fun _ => 0) () ?_ ?_
        · exact (Wk.cut rfl (by simp [hn]) (by simp [wkO, St.lp, getK_cons, getK, Ob.under, D.under, under_rowsD, under_entD, hop]) (by simp [wkU, St.lp, keepE, getK_cons, getK, D.under, hop]) (by simp [wkE, St.lp, keepE, getK_cons, getK, hop] <;> (try (intros; simp_all; done)) <;> (try (intros; omega)) <;> (try grind)))
        rintro ⟨⟩
        simp [St.lp, St.only, keepE, getK_cons, getK]
        repeat' (first
    | (refine H_cons ?_; simp [hop])
    | (refine HD2_val rfl ?_; simp [hop])
    | (refine HD_cons ?_; simp [hop])
    | (refine HD2_chg rfl ?_; simp [hop])
    | (refine H_nil ?_; simp [hop])
    | (refine ⟨by omega, ?_⟩)
    | (refine V_sseq ?_; simp [hop])
    | (refine V_scond ?_; simp [hop])
    | (refine HD2_nil (hC _ (by kernel_rfl)) (hk _ ?_); clear hC hk C k; simp only [RK_seq, RK_seq_ret, RK_seq_exit, RK_blk, RK_blk_ret, RK_blk_exit, RK_loop, RK_loop_ret, RK_loop_exit, RK_done])
    | (refine HD_nil ?_)
    | (refine hk _ ?_; clear hk k; simp only [RK_seq, RK_seq_ret, RK_seq_exit, RK_blk, RK_blk_ret, RK_blk_exit, RK_loop, RK_loop_ret, RK_loop_exit, RK_done])
    | (refine V_drawV rfl (by kernel_rfl) (by kernel_rfl) fun k hk => ?_; simp [hop])
    | (refine V_drawN rfl (by kernel_rfl) (by kernel_rfl) (by simp [hn]) fun C k hC hk => ?_; simp [hop])
    | (refine HD3_val rfl ?_; simp [hop])
    | (refine HD3_put ?_; simp [hop])
    | (refine HD3_chg rfl rfl ?_; simp [hop])
    | (refine HD3_nil (hC _ _ (by kernel_rfl) (by kernel_rfl)) (hk _ ?_); clear hC hk C k; simp only [RK_seq, RK_seq_ret, RK_seq_exit, RK_blk, RK_blk_ret, RK_blk_exit, RK_loop, RK_loop_ret, RK_loop_exit, RK_done]; simp [St.ins, insL, putE, getK_setOb, getK_cons])
    | (refine V_drawE rfl (by kernel_rfl) (by kernel_rfl) (by simp [hn]) fun C k hC hk => ?_; simp [hop])
    | (refine HD_guardU rfl (by simp [hop]) ?_; simp [hop])
    | (refine HD_guard rfl (by simp [hop]) (fun hc => ?_) (fun hc => ?_) <;> (try simp [hop] at hc) <;> (try (exfalso; omega)) <;> (try simp [hop]))
    | (refine HD2_guardU rfl (by simp [hop]) ?_; simp [hop])
    | (refine HD2_guard rfl (by simp [hop]) (fun hc => ?_) (fun hc => ?_) <;> (try simp [hop] at hc) <;> (try (exfalso; omega)) <;> (try simp [hop]))
    | (refine V_sblock ?_; simp [hop])
    | (refine V_sregion ?_; simp [hop])
    | (refine V_ret ?_; simp only [RK_seq, RK_seq_ret, RK_seq_exit, RK_blk, RK_blk_ret, RK_blk_exit, RK_loop, RK_loop_ret, RK_loop_exit, RK_done])
    | (refine V_skip ?_; simp only [RK_seq, RK_seq_ret, RK_seq_exit, RK_blk, RK_blk_ret, RK_blk_exit, RK_loop, RK_loop_ret, RK_loop_exit, RK_done])
    | (refine V_exit ?_; simp [RK_seq, RK_seq_ret, RK_seq_exit, RK_blk, RK_blk_ret, RK_blk_exit, RK_loop, RK_loop_ret, RK_loop_exit, RK_done])
    | (refine ⟨?_, by omega⟩)
    | (refine ⟨fun hc => ?_, fun hc => ?_⟩ <;> (try (exfalso; omega)))
    | (intro hc <;> (try (exfalso; omega))))
        all_goals
          (refine EndOK.val (.inr rfl) ?_; simp [resD, oneOrTup, pureD, Try.results23])
    have h0 : e.op ≠ 0 := fun h => h01 (.inl h)
    have hnm : e.op ≠ 1 := fun h => h01 (.inr h)
    have hrx := h4 h0 hnm
    obtain ⟨hall, hcomb⟩ : (∀ x ∈ e.args, (unitF lets given x).2 = 0) ∧ (combS e.op (e.args.map fun x => (unitF lets given x).1)).2 = true ∧ (unitF lets given e).1 = (combS e.op (e.args.map fun x => (unitF lets given x).1)).1 := by
      simp only [unitF] at hu ⊢
      rw [unitS_eq, if_neg h0, if_neg hnm] at hu
      rw [unitS_eq (e := e), if_neg h0, if_neg hnm]
      cases hl : unitsS (firstG given) (lastA (scOf given lets)) e.args with
      | error b =>
        rw [hl] at hu
        simp only at hu
        exact absurd hu (unitsS_ne hl)
      | ok l =>
        rw [hl] at hu
        obtain ⟨ha, rfl⟩ := unitsS_of_ok hl
        simp only at hu ⊢
        refine ⟨ha, ?_⟩
        split at hu
        · rename_i hc
          exact ⟨hc, by rw [if_pos hc]⟩
        · simp at hu
    have h3a : e.args.length ≤ 3 := by
      have : operandsI e.op ≤ 3 := by unfold operandsI; repeat' split
                                      all_goals omega
      omega
    have h1a : 1 ≤ e.args.length := by
      have : 1 ≤ operandsI e.op := by unfold operandsI; repeat' split
                                      all_goals omega
      omega
    have hown := own_fun e.op (e.args.map fun x => (unitF lets given x).1) (by omega) (by simpa using h1)
    rw [own_comb (op := e.op) (by omega) (by simpa using h1) (fun u hu => by
        obtain ⟨x, hx, rfl⟩ := List.mem_map.1 hu
        exact hrange d x (hrx x hx)), if_pos hcomb.1, ← hcomb.2] at hown
    have h6 : ∀ x ∈ e.args, Fun Try.prog 10 [.u (letsU lets), .u (varsU given), eagg x] (· = .tup [.u (.int .i64 (unitF lets given x).1), .u (.int .i64 0)]) := fun x hx => by
      have := unitOf_fun lets given x
      rw [hP d x (by omega) (hrx x hx), hall x hx] at this
      exact this
    have h7 : ∀ x ∈ e.args, Fun Try.prog 23 [.u (letsU lets), .u (varsU given), eagg x] (· = .u (.bool true)) := fun x hx => parted_fun lets given h20 hr hg d x (by omega) (hrx x hx) (hall x hx)
    rw [hu] at h5
    clear hcomb hall hu hP hrange hr h h4
    obtain ⟨F, hF⟩ : ∃ F : Exp → Int, ∀ x, (unitF lets given x).1 = F x := ⟨_, fun _ => rfl⟩
    simp only [hF] at h5 h6 hown hin
    clear hF
    have hA0 : (fun i => (e.args.take i).map F) 0 = [] := rfl
    have hAl : ∀ i, i ≤ e.args.length → ((fun i => (e.args.take i).map F) i).length = i := fun i hi => by simp; omega
    have hAn : ∀ i x, e.args[i]? = some x → (fun i => (e.args.take i).map F) (i + 1) = (fun i => (e.args.take i).map F) i ++ [F x] := fun i x hx => by
      have hlt : i < e.args.length := (List.getElem?_eq_some_iff.1 hx).1
      simp only
      rw [List.take_succ_eq_append_getElem hlt, List.map_append, (List.getElem?_eq_some_iff.1 hx).2]; rfl
    have hAe : e.args.map F = (fun i => (e.args.take i).map F) e.args.length := by simp
    rw [hAe] at hown
    generalize (fun i => (e.args.take i).map F) = A at hA0 hAl hAn hown
    generalize F e = u at h5 hin hown
    obtain ⟨hin1, hin2⟩ := hin
    simp only [eagg, letsU, varsU, ints] at h5 h6 h7 hown ⊢
    (refine Fun.of_body Try.func23 rfl (by simp) fun Γ hn => ?_); simp only [entry, List.zipIdx_cons, List.zipIdx_nil, List.map_cons, List.map_nil, Nat.zero_add, Try.ntmps23]
    repeat' (first
    | (refine H_cons ?_; simp)
    | (refine HD2_val rfl ?_; simp)
    | (refine HD_cons ?_; simp)
    | (refine HD2_chg rfl ?_; simp)
    | (refine H_nil ?_; simp)
    | (refine ⟨by omega, ?_⟩)
    | (refine V_sseq ?_; simp)
    | (refine V_scond ?_; simp)
    | (refine HD2_nil (hC _ (by kernel_rfl)) (hk _ ?_); clear hC hk C k; simp only [RK_seq, RK_seq_ret, RK_seq_exit, RK_blk, RK_blk_ret, RK_blk_exit, RK_loop, RK_loop_ret, RK_loop_exit, RK_done])
    | (refine HD_nil ?_)
    | (refine hk _ ?_; clear hk k; simp only [RK_seq, RK_seq_ret, RK_seq_exit, RK_blk, RK_blk_ret, RK_blk_exit, RK_loop, RK_loop_ret, RK_loop_exit, RK_done])
    | (refine V_drawV rfl (by kernel_rfl) (by kernel_rfl) fun k hk => ?_; simp)
    | (refine V_drawN rfl (by kernel_rfl) (by kernel_rfl) (by simp [hn]) fun C k hC hk => ?_; simp)
    | (refine HD3_val rfl ?_; simp)
    | (refine HD3_put ?_; simp)
    | (refine HD3_chg rfl rfl ?_; simp)
    | (refine HD3_nil (hC _ _ (by kernel_rfl) (by kernel_rfl)) (hk _ ?_); clear hC hk C k; simp only [RK_seq, RK_seq_ret, RK_seq_exit, RK_blk, RK_blk_ret, RK_blk_exit, RK_loop, RK_loop_ret, RK_loop_exit, RK_done]; simp [St.ins, insL, putE, getK_setOb, getK_cons])
    | (refine V_drawE rfl (by kernel_rfl) (by kernel_rfl) (by simp [hn]) fun C k hC hk => ?_; simp)
    | (refine HD_guardU rfl (by simp) ?_; simp)
    | (refine HD_guard rfl (by simp) (fun hc => ?_) (fun hc => ?_) <;> (try simp at hc) <;> (try (exfalso; omega)) <;> (try simp))
    | (refine HD2_guardU rfl (by simp) ?_; simp)
    | (refine HD2_guard rfl (by simp) (fun hc => ?_) (fun hc => ?_) <;> (try simp at hc) <;> (try (exfalso; omega)) <;> (try simp))
    | (refine V_sblock ?_; simp)
    | (refine V_sregion ?_; simp)
    | (refine V_ret ?_; simp only [RK_seq, RK_seq_ret, RK_seq_exit, RK_blk, RK_blk_ret, RK_blk_exit, RK_loop, RK_loop_ret, RK_loop_exit, RK_done])
    | (refine V_skip ?_; simp only [RK_seq, RK_seq_ret, RK_seq_exit, RK_blk, RK_blk_ret, RK_blk_exit, RK_loop, RK_loop_ret, RK_loop_exit, RK_done])
    | (refine V_exit ?_; simp [RK_seq, RK_seq_ret, RK_seq_exit, RK_blk, RK_blk_ret, RK_blk_exit, RK_loop, RK_loop_ret, RK_loop_exit, RK_done])
    | (refine ⟨?_, by omega⟩)
    | (refine ⟨fun hc => ?_, fun hc => ?_⟩ <;> (try (exfalso; omega)))
    | (intro hc <;> (try (exfalso; omega)))
    | (refine CallV.fun_ (h5) (by first | rfl | fail) (by first | assumption | (simp; done) | fail) (by first | (simp; done) | (simp; rfl) | fail) (by first | (simp; done) | fail) ?_ <;> (try simp))
    | (refine CallP.fun_ (h5) (by first | rfl | fail) (by first | assumption | (simp; done) | fail) (by first | (simp; done) | (simp; rfl) | fail) (by first | (simp; done) | fail) (fun d hd => ?_); subst hd; (try simp)))
    all_goals first | omega | skip
    refine V_wk _ (Wk.own 9 3 1 (by decide) rfl) ?_
    simp [St.own]
    refine V_loopO (α := { i : Nat // i ≤ e.args.length }) [0, 1, 5, 7]
      (fun p => [(9, .vec 1 (A p.1).length), (10, .u (.int .i64 p.1))]) (fun p => [(1, .vec 3 1 (rowsD ((A p.1).map fun n => [U.int .i64 n]))), (0, .box [.u (.int .i64 e.op), .u (.int .i64 e.n), .u (.int .i64 e.unit), .u (.str e.s), .u (.sl (e.args.map Exp.row))])]) 2
      (fun p => e.args.length - p.1) ⟨0, by simp⟩ ?_ ?_
    · exact (Wk.cut rfl (by simp [hn]) (by simp [wkO, St.lp, getK_cons, getK, Ob.under, D.under, under_rowsD, under_entD, hA0]) (by simp [wkU, St.lp, keepE, getK_cons, getK, D.under, hA0]) (by simp [wkE, St.lp, keepE, getK_cons, getK, hA0] <;> (try (intros; simp_all; done)) <;> (try (intros; omega)) <;> (try grind)))
    rintro ⟨i, hi⟩
    have hal := hAl i hi
    simp [St.lp, St.only, keepE, getK_cons, getK]
    rcases hx : e.args[i]? with _ | x
    · have hge : e.args.length ≤ i := by simpa using hx
      obtain rfl : i = e.args.length := by omega
      repeat' (first
    | (refine H_cons ?_; simp [hx, h0, hnm])
    | (refine HD2_val rfl ?_; simp [hx, h0, hnm])
    | (refine HD_cons ?_; simp [hx, h0, hnm])
    | (refine HD2_chg rfl ?_; simp [hx, h0, hnm])
    | (refine H_nil ?_; simp [hx, h0, hnm])
    | (refine ⟨by omega, ?_⟩)
    | (refine V_sseq ?_; simp [hx, h0, hnm])
    | (refine V_scond ?_; simp [hx, h0, hnm])
    | (refine HD2_nil (hC _ (by kernel_rfl)) (hk _ ?_); clear hC hk C k; simp only [RK_seq, RK_seq_ret, RK_seq_exit, RK_blk, RK_blk_ret, RK_blk_exit, RK_loop, RK_loop_ret, RK_loop_exit, RK_done])
    | (refine HD_nil ?_)
    | (refine hk _ ?_; clear hk k; simp only [RK_seq, RK_seq_ret, RK_seq_exit, RK_blk, RK_blk_ret, RK_blk_exit, RK_loop, RK_loop_ret, RK_loop_exit, RK_done])
    | (refine V_drawV rfl (by kernel_rfl) (by kernel_rfl) fun k hk => ?_; simp [hx, h0, hnm])
    | (refine V_drawN rfl (by kernel_rfl) (by kernel_rfl) (by simp [hn]) fun C k hC hk => ?_; simp [hx, h0, hnm])
    | (refine HD3_val rfl ?_; simp [hx, h0, hnm])
    | (refine HD3_put ?_; simp [hx, h0, hnm])
    | (refine HD3_chg rfl rfl ?_; simp [hx, h0, hnm])
    | (refine HD3_nil (hC _ _ (by kernel_rfl) (by kernel_rfl)) (hk _ ?_); clear hC hk C k; simp only [RK_seq, RK_seq_ret, RK_seq_exit, RK_blk, RK_blk_ret, RK_blk_exit, RK_loop, RK_loop_ret, RK_loop_exit, RK_done]; simp [St.ins, insL, putE, getK_setOb, getK_cons])
    | (refine V_drawE rfl (by kernel_rfl) (by kernel_rfl) (by simp [hn]) fun C k hC hk => ?_; simp [hx, h0, hnm])
    | (refine HD_guardU rfl (by simp [hx, h0, hnm]) ?_; simp [hx, h0, hnm])
    | (refine HD_guard rfl (by simp [hx, h0, hnm]) (fun hc => ?_) (fun hc => ?_) <;> (try simp [hx, h0, hnm] at hc) <;> (try (exfalso; omega)) <;> (try simp [hx, h0, hnm]))
    | (refine HD2_guardU rfl (by simp [hx, h0, hnm]) ?_; simp [hx, h0, hnm])
    | (refine HD2_guard rfl (by simp [hx, h0, hnm]) (fun hc => ?_) (fun hc => ?_) <;> (try simp [hx, h0, hnm] at hc) <;> (try (exfalso; omega)) <;> (try simp [hx, h0, hnm]))
    | (refine V_sblock ?_; simp [hx, h0, hnm])
    | (refine V_sregion ?_; simp [hx, h0, hnm])
    | (refine V_ret ?_; simp only [RK_seq, RK_seq_ret, RK_seq_exit, RK_blk, RK_blk_ret, RK_blk_exit, RK_loop, RK_loop_ret, RK_loop_exit, RK_done])
    | (refine V_skip ?_; simp only [RK_seq, RK_seq_ret, RK_seq_exit, RK_blk, RK_blk_ret, RK_blk_exit, RK_loop, RK_loop_ret, RK_loop_exit, RK_done])
    | (refine V_exit ?_; simp [RK_seq, RK_seq_ret, RK_seq_exit, RK_blk, RK_blk_ret, RK_blk_exit, RK_loop, RK_loop_ret, RK_loop_exit, RK_done])
    | (refine ⟨?_, by omega⟩)
    | (refine ⟨fun hc => ?_, fun hc => ?_⟩ <;> (try (exfalso; omega)))
    | (intro hc <;> (try (exfalso; omega)))
    | (refine CallV.fun_ (hown) (by first | rfl | fail) (by first | assumption | (simp; done) | fail) (by first | (simp [hx, h0, hnm]; done) | (simp [hx, h0, hnm]; rfl) | fail) (by first | (simp; done) | fail) ?_ <;> (try simp [hx, h0, hnm]))
    | (refine CallP.fun_ (hown) (by first | rfl | fail) (by first | assumption | (simp; done) | fail) (by first | (simp [hx, h0, hnm]; done) | (simp [hx, h0, hnm]; rfl) | fail) (by first | (simp; done) | fail) (fun d hd => ?_); subst hd; (try simp [hx, h0, hnm])))
      all_goals
        (refine EndOK.val (.inr rfl) ?_; simp [resD, oneOrTup, pureD, Try.results23])
      all_goals (first | omega | (simp_all; done) | grind)
    · have hlt : i < e.args.length := (List.getElem?_eq_some_iff.1 hx).1
      have h6x := h6 x (List.mem_of_getElem? hx)
      have h7x := h7 x (List.mem_of_getElem? hx)
      have hnext := hAn i x hx
      repeat' (first
    | (refine H_cons ?_; simp [hx, x.row_eq, h0, hnm])
    | (refine HD2_val rfl ?_; simp [hx, x.row_eq, h0, hnm])
    | (refine HD_cons ?_; simp [hx, x.row_eq, h0, hnm])
    | (refine HD2_chg rfl ?_; simp [hx, x.row_eq, h0, hnm])
    | (refine H_nil ?_; simp [hx, x.row_eq, h0, hnm])
    | (refine ⟨by omega, ?_⟩)
    | (refine V_sseq ?_; simp [hx, x.row_eq, h0, hnm])
    | (refine V_scond ?_; simp [hx, x.row_eq, h0, hnm])
    | (refine HD2_nil (hC _ (by kernel_rfl)) (hk _ ?_); clear hC hk C k; simp only [RK_seq, RK_seq_ret, RK_seq_exit, RK_blk, RK_blk_ret, RK_blk_exit, RK_loop, RK_loop_ret, RK_loop_exit, RK_done])
    | (refine HD_nil ?_)
    | (refine hk _ ?_; clear hk k; simp only [RK_seq, RK_seq_ret, RK_seq_exit, RK_blk, RK_blk_ret, RK_blk_exit, RK_loop, RK_loop_ret, RK_loop_exit, RK_done])
    | (refine V_drawV rfl (by kernel_rfl) (by kernel_rfl) fun k hk => ?_; simp [hx, x.row_eq, h0, hnm])
    | (refine V_drawN rfl (by kernel_rfl) (by kernel_rfl) (by simp [hn]) fun C k hC hk => ?_; simp [hx, x.row_eq, h0, hnm])
    | (refine HD3_val rfl ?_; simp [hx, x.row_eq, h0, hnm])
    | (refine HD3_put ?_; simp [hx, x.row_eq, h0, hnm])
    | (refine HD3_chg rfl rfl ?_; simp [hx, x.row_eq, h0, hnm])
    | (refine HD3_nil (hC _ _ (by kernel_rfl) (by kernel_rfl)) (hk _ ?_); clear hC hk C k; simp only [RK_seq, RK_seq_ret, RK_seq_exit, RK_blk, RK_blk_ret, RK_blk_exit, RK_loop, RK_loop_ret, RK_loop_exit, RK_done]; simp [St.ins, insL, putE, getK_setOb, getK_cons])
    | (refine V_drawE rfl (by kernel_rfl) (by kernel_rfl) (by simp [hn]) fun C k hC hk => ?_; simp [hx, x.row_eq, h0, hnm])
    | (refine HD_guardU rfl (by simp [hx, x.row_eq, h0, hnm]) ?_; simp [hx, x.row_eq, h0, hnm])
    | (refine HD_guard rfl (by simp [hx, x.row_eq, h0, hnm]) (fun hc => ?_) (fun hc => ?_) <;> (try simp [hx, x.row_eq, h0, hnm] at hc) <;> (try (exfalso; omega)) <;> (try simp [hx, x.row_eq, h0, hnm]))
    | (refine HD2_guardU rfl (by simp [hx, x.row_eq, h0, hnm]) ?_; simp [hx, x.row_eq, h0, hnm])
    | (refine HD2_guard rfl (by simp [hx, x.row_eq, h0, hnm]) (fun hc => ?_) (fun hc => ?_) <;> (try simp [hx, x.row_eq, h0, hnm] at hc) <;> (try (exfalso; omega)) <;> (try simp [hx, x.row_eq, h0, hnm]))
    | (refine V_sblock ?_; simp [hx, x.row_eq, h0, hnm])
    | (refine V_sregion ?_; simp [hx, x.row_eq, h0, hnm])
    | (refine V_ret ?_; simp only [RK_seq, RK_seq_ret, RK_seq_exit, RK_blk, RK_blk_ret, RK_blk_exit, RK_loop, RK_loop_ret, RK_loop_exit, RK_done])
    | (refine V_skip ?_; simp only [RK_seq, RK_seq_ret, RK_seq_exit, RK_blk, RK_blk_ret, RK_blk_exit, RK_loop, RK_loop_ret, RK_loop_exit, RK_done])
    | (refine V_exit ?_; simp [RK_seq, RK_seq_ret, RK_seq_exit, RK_blk, RK_blk_ret, RK_blk_exit, RK_loop, RK_loop_ret, RK_loop_exit, RK_done])
    | (refine ⟨?_, by omega⟩)
    | (refine ⟨fun hc => ?_, fun hc => ?_⟩ <;> (try (exfalso; omega)))
    | (intro hc <;> (try (exfalso; omega)))
    | (refine CallV.fun_ (h6x) (by first | rfl | fail) (by first | assumption | (simp; done) | fail) (by first | (simp [hx, x.row_eq, h0, hnm]; done) | (simp [hx, x.row_eq, h0, hnm]; rfl) | fail) (by first | (simp; done) | fail) ?_ <;> (try simp [hx, x.row_eq, h0, hnm]))
    | (refine CallP.fun_ (h6x) (by first | rfl | fail) (by first | assumption | (simp; done) | fail) (by first | (simp [hx, x.row_eq, h0, hnm]; done) | (simp [hx, x.row_eq, h0, hnm]; rfl) | fail) (by first | (simp; done) | fail) (fun d hd => ?_); subst hd; (try simp [hx, x.row_eq, h0, hnm]))
    | (refine CallV.fun_ (h7x) (by first | rfl | fail) (by first | assumption | (simp; done) | fail) (by first | (simp [hx, x.row_eq, h0, hnm]; done) | (simp [hx, x.row_eq, h0, hnm]; rfl) | fail) (by first | (simp; done) | fail) ?_ <;> (try simp [hx, x.row_eq, h0, hnm]))
    | (refine CallP.fun_ (h7x) (by first | rfl | fail) (by first | assumption | (simp; done) | fail) (by first | (simp [hx, x.row_eq, h0, hnm]; done) | (simp [hx, x.row_eq, h0, hnm]; rfl) | fail) (by first | (simp; done) | fail) (fun d hd => ?_); subst hd; (try simp [hx, x.row_eq, h0, hnm])))
      all_goals first | omega | skip
      refine LoopW.next ⟨i + 1, (by omega : i + 1 ≤ e.args.length)⟩ (by simp; omega) ?_
      exact (Wk.ren ((fun i => if i = 1 then 3 else i)) rfl (by simp [hn]) (by simp [wkER, St.lp, keepE, getK_cons, getK, getK_del, getK_setOb, D.under, D.le, D.ren, hnext] <;> (try (intros; simp_all; done)) <;> (try omega)) (by simp [wkR, St.lp, getK_cons, getK, getK_del, getK_setOb, obR, leU, pureRow, pureRows, Ob.under, D.under, D.le, D.ren, hnext] <;> (try (intros; simp_all; done)) <;> (try omega)) (by simp))
end Go.Proofs.Ytehlmagdlkcifaa
