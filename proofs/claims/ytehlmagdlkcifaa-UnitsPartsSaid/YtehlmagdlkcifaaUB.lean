/- put: an expression in which a name is replaced. -/
import Derived.Test.YtehlmagdlkcifaaUd
import Derived.Test.YtehlmagdlkcifaaVLR
set_option linter.all false
set_option maxRecDepth 100000
set_option maxHeartbeats 8000000
namespace Go.Proofs.Ytehlmagdlkcifaa
open Go Go.VL
mutual
def putS (s : List UInt8) (b : Exp) : Exp → Exp
  | .mk op n u t args => if op = 1 ∧ t = s then b else .mk op n u t (putL s b args)
def putL (s : List UInt8) (b : Exp) : List Exp → List Exp
  | [] => []
  | e :: l => putS s b e :: putL s b l
end
theorem putL_map (s b) : ∀ l : List Exp, putL s b l = l.map (putS s b)
  | [] => by rw [putL]; rfl
  | e :: l => by rw [putL, putL_map s b l]; rfl
theorem putS_eq (s b) (e : Exp) : putS s b e = if e.op = 1 ∧ e.s = s then b else .mk e.op e.n e.unit e.s (e.args.map (putS s b)) := by
  cases e with | mk op n u t args => rw [putS, putL_map]; rfl
theorem eagg_mk (o n u : Int) (t : List UInt8) (l : List Exp) : eagg (.mk o n u t l) = .u (.agg [.int .i64 o, .int .i64 n, .int .i64 u, .str t, .sl (l.map Exp.row)]) := rfl
mutual
/-- Every node has few operands. -/
def thinS : Exp → Bool
  | .mk _ _ _ _ args => decide (args.length ≤ 1000) && thinL args
def thinL : List Exp → Bool
  | [] => true
  | e :: l => thinS e && thinL l
end
theorem thinL_all : ∀ l : List Exp, thinL l = true ↔ ∀ x ∈ l, thinS x = true
  | [] => by rw [thinL]; simp
  | e :: l => by rw [thinL, Bool.and_eq_true, thinL_all l]; simp
theorem thinS_iff (e : Exp) : thinS e = true ↔ e.args.length ≤ 1000 ∧ ∀ x ∈ e.args, thinS x = true := by
  cases e with | mk op n u s args => rw [thinS, Bool.and_eq_true, decide_eq_true_eq, thinL_all]; rfl
section
attribute [local simp] hcons hstep evPure opd uOf putOK St.put St.at getK binD binI binS binB nilD aggD eqUs cmpK lookD lookR rangeD nextD entryD keyD valU keyU lookK mkV entD_nil lookK_entD updK_entD1 updK_entD2 updK_entD3 allUE allUE_entD makeMapD mapUpdD mapEff updK valM Key.kk shiftI arith unD convD pickD loadD cellsAt fieldAddrD fieldD indexAddrD indexD sliceD cutD lenD minmaxD nilCheckD buildD fillD cellsD isOne ones setAll mkAgg allU allocD boxD storeD St.add buildSliceD appendD rowsOf makeD setOb getK_setOb getK_del getK_cons stripL strip guardTmp entry chunks zcells valD argsV argsW argW argU1 argU0 argsU0 argsU1 calleeOf scalarD scalarU delAll effD St.effS RK_seq RK_seq_ret RK_seq_exit RK_blk RK_blk_ret RK_blk_exit RK_loop RK_loop_ret RK_loop_exit RK_done vs_seq vs_block vs_skip vs_label vs_exit vs_ret vs_cond vs_region vs_loop vs_draw vs_range vs_scope applyW mkD rdIds lentIds callOf calleeOf freeOp D.ids Op.operands Call.operands isEffOp IntKind.bits allU2 allU2_append List.take_of_length_le List.range_succ
attribute [local irreducible] V G H HD HD2 RunK Eff CallP CallV EndOK Fun Ret FinOK LoopI LoopW EndW
theorem put_fun (s : List UInt8) (b : Exp) : ∀ (m : Nat) (e : Exp), SizeOf.sizeOf e ≤ m → thinS e = true → Fun Try.prog 29 [eagg e, .u (.str s), eagg b] (· = eagg (putS s b e))
  | 0, e, hm, _ => by cases e; simp at hm
  | m + 1, e, hm, ht => by
    obtain ⟨hl, hth⟩ := (thinS_iff e).1 ht
    have ih : ∀ x ∈ e.args, Fun Try.prog 29 [eagg x, .u (.str s), eagg b] (· = eagg (putS s b x)) := fun x hx => by
      refine put_fun s b m x ?_ (hth x hx)
      have h1 := List.sizeOf_lt_of_mem hx
      cases e with | mk op n u t args => simp [Exp.args] at h1 hm; omega
    rw [putS_eq]
    by_cases h1 : e.op = 1 ∧ e.s = s
    · rw [if_pos h1]
      obtain ⟨h1, h2⟩ := h1
      (refine Fun.of_bodyW Try.func29 rfl (by simp) fun Γ hn => ?_); simp only [entry, List.zipIdx_cons, List.zipIdx_nil, List.map_cons, List.map_nil, Nat.zero_add, Try.ntmps29]
      simp only [eagg]
      repeat' (first
    | (refine H_cons ?_; simp [h1, h2])
    | (refine HD2_val rfl ?_; simp [h1, h2])
    | (refine HD_cons ?_; simp [h1, h2])
    | (refine HD2_chg rfl ?_; simp [h1, h2])
    | (refine H_nil ?_; simp [h1, h2])
    | (refine ⟨by omega, ?_⟩)
    | (refine V_sseq ?_; simp [h1, h2])
    | (refine V_scond ?_; simp [h1, h2])
    | (refine HD2_nil (hC _ (by kernel_rfl)) (hk _ ?_); clear hC hk C k; simp only [RK_seq, RK_seq_ret, RK_seq_exit, RK_blk, RK_blk_ret, RK_blk_exit, RK_loop, RK_loop_ret, RK_loop_exit, RK_done])
    | (refine HD_nil ?_)
    | (refine hk _ ?_; clear hk k; simp only [RK_seq, RK_seq_ret, RK_seq_exit, RK_blk, RK_blk_ret, RK_blk_exit, RK_loop, RK_loop_ret, RK_loop_exit, RK_done])
    | (refine V_drawV rfl (by kernel_rfl) (by kernel_rfl) fun k hk => ?_; simp [h1, h2])
    | (refine V_drawN rfl (by kernel_rfl) (by kernel_rfl) (by simp [hn]) fun C k hC hk => ?_; simp [h1, h2])
    | (refine HD3_val rfl ?_; simp [h1, h2])
    | (refine HD3_put ?_; simp [h1, h2])
    | (refine HD3_chg rfl rfl ?_; simp [h1, h2])
    | (refine HD3_nil (hC _ _ (by kernel_rfl) (by kernel_rfl)) (hk _ ?_); clear hC hk C k; simp only [RK_seq, RK_seq_ret, RK_seq_exit, RK_blk, RK_blk_ret, RK_blk_exit, RK_loop, RK_loop_ret, RK_loop_exit, RK_done]; simp [St.ins, insL, putE, getK_setOb, getK_cons])
    | (refine V_drawE rfl (by kernel_rfl) (by kernel_rfl) (by simp [hn]) fun C k hC hk => ?_; simp [h1, h2])
    | (refine HD_guardU rfl (by simp [h1, h2]) ?_; simp [h1, h2])
    | (refine HD_guard rfl (by simp [h1, h2]) (fun hc => ?_) (fun hc => ?_) <;> (try simp [h1, h2] at hc) <;> (try (exfalso; omega)) <;> (try simp [h1, h2]))
    | (refine HD2_guardU rfl (by simp [h1, h2]) ?_; simp [h1, h2])
    | (refine HD2_guard rfl (by simp [h1, h2]) (fun hc => ?_) (fun hc => ?_) <;> (try simp [h1, h2] at hc) <;> (try (exfalso; omega)) <;> (try simp [h1, h2]))
    | (refine V_sblock ?_; simp [h1, h2])
    | (refine V_sregion ?_; simp [h1, h2])
    | (refine V_ret ?_; simp only [RK_seq, RK_seq_ret, RK_seq_exit, RK_blk, RK_blk_ret, RK_blk_exit, RK_loop, RK_loop_ret, RK_loop_exit, RK_done])
    | (refine V_skip ?_; simp only [RK_seq, RK_seq_ret, RK_seq_exit, RK_blk, RK_blk_ret, RK_blk_exit, RK_loop, RK_loop_ret, RK_loop_exit, RK_done])
    | (refine V_exit ?_; simp [RK_seq, RK_seq_ret, RK_seq_exit, RK_blk, RK_blk_ret, RK_blk_exit, RK_loop, RK_loop_ret, RK_loop_exit, RK_done])
    | (refine ⟨?_, by omega⟩)
    | (refine ⟨fun hc => ?_, fun hc => ?_⟩ <;> (try (exfalso; omega)))
    | (intro hc <;> (try (exfalso; omega))))
      refine EndW.norm (EndW.here ?_)
      (refine EndOK.val (.inr rfl) ?_; simp [resD, oneOrTup, pureD, Try.results29, frz_obs, frz_env, norm_obs, norm_env, frz, frzOb, frzS, fv, fzVec, fzMap, fzBox, frzObS, frz_entD, frz_rowsD, normD, normU, norm1, normOb])
    rw [if_neg h1, eagg_mk]
    simp only [eagg] at ih ⊢
    have hA0 : (fun i => (e.args.take i).map fun x => (putS s b x).row) 0 = [] := rfl
    have hAl : ∀ i, i ≤ e.args.length → ((fun i => (e.args.take i).map fun x => (putS s b x).row) i).length = i := fun i hi => by simp; omega
    have hAn : ∀ i x, e.args[i]? = some x → (fun i => (e.args.take i).map fun x => (putS s b x).row) (i + 1) = (fun i => (e.args.take i).map fun x => (putS s b x).row) i ++ [(putS s b x).row] := fun i x hx => by
      have hlt : i < e.args.length := (List.getElem?_eq_some_iff.1 hx).1
      simp only
      rw [List.take_succ_eq_append_getElem hlt, List.map_append, (List.getElem?_eq_some_iff.1 hx).2]; rfl
    have hAe : (e.args.map (putS s b)).map Exp.row = (fun i => (e.args.take i).map fun x => (putS s b x).row) e.args.length := by simp [Function.comp_def]
    rw [hAe]
    generalize (fun i => (e.args.take i).map fun x => (putS s b x).row) = A at hA0 hAl hAn
    by_cases hop : e.op = 1
    all_goals
      try have hop2 : ¬ e.s = s := fun h => h1 ⟨hop, h⟩
      (refine Fun.of_bodyW Try.func29 rfl (by simp) fun Γ hn => ?_); simp only [entry, List.zipIdx_cons, List.zipIdx_nil, List.map_cons, List.map_nil, Nat.zero_add, Try.ntmps29]
      repeat' (first
    | (refine H_cons ?_; simp [*])
    | (refine HD2_val rfl ?_; simp [*])
    | (refine HD_cons ?_; simp [*])
    | (refine HD2_chg rfl ?_; simp [*])
    | (refine H_nil ?_; simp [*])
    | (refine ⟨by omega, ?_⟩)
    | (refine V_sseq ?_; simp [*])
    | (refine V_scond ?_; simp [*])
    | (refine HD2_nil (hC _ (by kernel_rfl)) (hk _ ?_); clear hC hk C k; simp only [RK_seq, RK_seq_ret, RK_seq_exit, RK_blk, RK_blk_ret, RK_blk_exit, RK_loop, RK_loop_ret, RK_loop_exit, RK_done])
    | (refine HD_nil ?_)
    | (refine hk _ ?_; clear hk k; simp only [RK_seq, RK_seq_ret, RK_seq_exit, RK_blk, RK_blk_ret, RK_blk_exit, RK_loop, RK_loop_ret, RK_loop_exit, RK_done])
    | (refine V_drawV rfl (by kernel_rfl) (by kernel_rfl) fun k hk => ?_; simp [*])
    | (refine V_drawN rfl (by kernel_rfl) (by kernel_rfl) (by simp [hn]) fun C k hC hk => ?_; simp [*])
    | (refine HD3_val rfl ?_; simp [*])
    | (refine HD3_put ?_; simp [*])
    | (refine HD3_chg rfl rfl ?_; simp [*])
    | (refine HD3_nil (hC _ _ (by kernel_rfl) (by kernel_rfl)) (hk _ ?_); clear hC hk C k; simp only [RK_seq, RK_seq_ret, RK_seq_exit, RK_blk, RK_blk_ret, RK_blk_exit, RK_loop, RK_loop_ret, RK_loop_exit, RK_done]; simp [St.ins, insL, putE, getK_setOb, getK_cons])
    | (refine V_drawE rfl (by kernel_rfl) (by kernel_rfl) (by simp [hn]) fun C k hC hk => ?_; simp [*])
    | (refine HD_guardU rfl (by simp [*]) ?_; simp [*])
    | (refine HD_guard rfl (by simp [*]) (fun hc => ?_) (fun hc => ?_) <;> (try simp [*] at hc) <;> (try (exfalso; omega)) <;> (try simp [*]))
    | (refine HD2_guardU rfl (by simp [*]) ?_; simp [*])
    | (refine HD2_guard rfl (by simp [*]) (fun hc => ?_) (fun hc => ?_) <;> (try simp [*] at hc) <;> (try (exfalso; omega)) <;> (try simp [*]))
    | (refine V_sblock ?_; simp [*])
    | (refine V_sregion ?_; simp [*])
    | (refine V_ret ?_; simp only [RK_seq, RK_seq_ret, RK_seq_exit, RK_blk, RK_blk_ret, RK_blk_exit, RK_loop, RK_loop_ret, RK_loop_exit, RK_done])
    | (refine V_skip ?_; simp only [RK_seq, RK_seq_ret, RK_seq_exit, RK_blk, RK_blk_ret, RK_blk_exit, RK_loop, RK_loop_ret, RK_loop_exit, RK_done])
    | (refine V_exit ?_; simp [RK_seq, RK_seq_ret, RK_seq_exit, RK_blk, RK_blk_ret, RK_blk_exit, RK_loop, RK_loop_ret, RK_loop_exit, RK_done])
    | (refine ⟨?_, by omega⟩)
    | (refine ⟨fun hc => ?_, fun hc => ?_⟩ <;> (try (exfalso; omega)))
    | (intro hc <;> (try (exfalso; omega))))
      refine V_wk _ (Wk.ownC 3 _ 4 26 5 (by decide) rfl rfl) ?_
      simp [St.ownC]
      refine V_loopO (α := { i : Nat // i ≤ e.args.length }) [1, 3, 5, 6, 7] (fun i => [(8, .u (.int .i64 i.1))])
        (fun i => [(3, .box [.u (.int .i64 e.op), .u (.int .i64 e.n), .u (.int .i64 e.unit), .u (.str e.s), .vec 4 i.1]), (4, .vec 26 5 (rowsD (A i.1))), (2, .box [.u (.int .i64 0), .u (.int .i64 0), .u (.int .i64 0), .u (.str []), .u (.sl [])]), (1, .box [.u (.int .i64 b.op), .u (.int .i64 b.n), .u (.int .i64 b.unit), .u (.str b.s), .u (.sl (b.args.map Exp.row))]), (0, .box [.u (.int .i64 e.op), .u (.int .i64 e.n), .u (.int .i64 e.unit), .u (.str e.s), .u (.sl (e.args.map Exp.row))])]) 5
        (fun i => e.args.length - i.1) ⟨0, by omega⟩ ?_ ?_
      · exact (Wk.ren ((fun i => i)) rfl (by simp [hn]) (by simp [wkER, St.lp, keepE, getK_cons, getK, getK_del, getK_setOb, D.under, D.le, D.ren, hA0] <;> (try (intros; simp_all; done)) <;> (try omega)) (by simp [wkR, St.lp, getK_cons, getK, getK_del, getK_setOb, obR, leU, pureRow, pureRows, Ob.under, D.under, D.le, D.ren, hA0] <;> (try (intros; simp_all; done)) <;> (try omega)) (by simp))
      rintro ⟨i, hi⟩
      have hal := hAl i hi
      have htk : (A i).take i = A i := List.take_of_length_le (by omega)
      simp [St.lp, St.only, keepE, getK_cons, getK]
      rcases hx : e.args[i]? with _ | x
      · have hge : e.args.length ≤ i := by simpa using hx
        obtain rfl : i = e.args.length := by omega
        repeat' (first
    | (refine H_cons ?_; simp [hx])
    | (refine HD2_val rfl ?_; simp [hx])
    | (refine HD_cons ?_; simp [hx])
    | (refine HD2_chg rfl ?_; simp [hx])
    | (refine H_nil ?_; simp [hx])
    | (refine ⟨by omega, ?_⟩)
    | (refine V_sseq ?_; simp [hx])
    | (refine V_scond ?_; simp [hx])
    | (refine HD2_nil (hC _ (by kernel_rfl)) (hk _ ?_); clear hC hk C k; simp only [RK_seq, RK_seq_ret, RK_seq_exit, RK_blk, RK_blk_ret, RK_blk_exit, RK_loop, RK_loop_ret, RK_loop_exit, RK_done])
    | (refine HD_nil ?_)
    | (refine hk _ ?_; clear hk k; simp only [RK_seq, RK_seq_ret, RK_seq_exit, RK_blk, RK_blk_ret, RK_blk_exit, RK_loop, RK_loop_ret, RK_loop_exit, RK_done])
    | (refine V_drawV rfl (by kernel_rfl) (by kernel_rfl) fun k hk => ?_; simp [hx])
    | (refine V_drawN rfl (by kernel_rfl) (by kernel_rfl) (by simp [hn]) fun C k hC hk => ?_; simp [hx])
    | (refine HD3_val rfl ?_; simp [hx])
    | (refine HD3_put ?_; simp [hx])
    | (refine HD3_chg rfl rfl ?_; simp [hx])
    | (refine HD3_nil (hC _ _ (by kernel_rfl) (by kernel_rfl)) (hk _ ?_); clear hC hk C k; simp only [RK_seq, RK_seq_ret, RK_seq_exit, RK_blk, RK_blk_ret, RK_blk_exit, RK_loop, RK_loop_ret, RK_loop_exit, RK_done]; simp [St.ins, insL, putE, getK_setOb, getK_cons])
    | (refine V_drawE rfl (by kernel_rfl) (by kernel_rfl) (by simp [hn]) fun C k hC hk => ?_; simp [hx])
    | (refine HD_guardU rfl (by simp [hx]) ?_; simp [hx])
    | (refine HD_guard rfl (by simp [hx]) (fun hc => ?_) (fun hc => ?_) <;> (try simp [hx] at hc) <;> (try (exfalso; omega)) <;> (try simp [hx]))
    | (refine HD2_guardU rfl (by simp [hx]) ?_; simp [hx])
    | (refine HD2_guard rfl (by simp [hx]) (fun hc => ?_) (fun hc => ?_) <;> (try simp [hx] at hc) <;> (try (exfalso; omega)) <;> (try simp [hx]))
    | (refine V_sblock ?_; simp [hx])
    | (refine V_sregion ?_; simp [hx])
    | (refine V_ret ?_; simp only [RK_seq, RK_seq_ret, RK_seq_exit, RK_blk, RK_blk_ret, RK_blk_exit, RK_loop, RK_loop_ret, RK_loop_exit, RK_done])
    | (refine V_skip ?_; simp only [RK_seq, RK_seq_ret, RK_seq_exit, RK_blk, RK_blk_ret, RK_blk_exit, RK_loop, RK_loop_ret, RK_loop_exit, RK_done])
    | (refine V_exit ?_; simp [RK_seq, RK_seq_ret, RK_seq_exit, RK_blk, RK_blk_ret, RK_blk_exit, RK_loop, RK_loop_ret, RK_loop_exit, RK_done])
    | (refine ⟨?_, by omega⟩)
    | (refine ⟨fun hc => ?_, fun hc => ?_⟩ <;> (try (exfalso; omega)))
    | (intro hc <;> (try (exfalso; omega))))
        (refine EndW.frzN 1 ?_; simp [frzN, frz1, frz_env, frz_obs, St.frz, St.frzS, frzS, fv, fzVec, fzMap, fzBox, frzObS, frz_entD, frz_rowsD, del, frz, frzOb, hal, htk])
        refine EndW.norm (EndW.here ?_)
        (refine EndOK.val (.inr rfl) ?_; simp [resD, oneOrTup, pureD, Try.results29, frz_obs, frz_env, norm_obs, norm_env, frz, frzOb, frzS, fv, fzVec, fzMap, fzBox, frzObS, frz_entD, frz_rowsD, normD, normU, norm1, normOb])
        all_goals exact hop
      · have hlt : i < e.args.length := (List.getElem?_eq_some_iff.1 hx).1
        have h5 := ih x (List.mem_of_getElem? hx)
        have hnext := hAn i x hx
        rw [Exp.row_eq] at hnext
        repeat' (first
    | (refine H_cons ?_; simp [hx, x.row_eq])
    | (refine HD2_val rfl ?_; simp [hx, x.row_eq])
    | (refine HD_cons ?_; simp [hx, x.row_eq])
    | (refine HD2_chg rfl ?_; simp [hx, x.row_eq])
    | (refine H_nil ?_; simp [hx, x.row_eq])
    | (refine ⟨by omega, ?_⟩)
    | (refine V_sseq ?_; simp [hx, x.row_eq])
    | (refine V_scond ?_; simp [hx, x.row_eq])
    | (refine HD2_nil (hC _ (by kernel_rfl)) (hk _ ?_); clear hC hk C k; simp only [RK_seq, RK_seq_ret, RK_seq_exit, RK_blk, RK_blk_ret, RK_blk_exit, RK_loop, RK_loop_ret, RK_loop_exit, RK_done])
    | (refine HD_nil ?_)
    | (refine hk _ ?_; clear hk k; simp only [RK_seq, RK_seq_ret, RK_seq_exit, RK_blk, RK_blk_ret, RK_blk_exit, RK_loop, RK_loop_ret, RK_loop_exit, RK_done])
    | (refine V_drawV rfl (by kernel_rfl) (by kernel_rfl) fun k hk => ?_; simp [hx, x.row_eq])
    | (refine V_drawN rfl (by kernel_rfl) (by kernel_rfl) (by simp [hn]) fun C k hC hk => ?_; simp [hx, x.row_eq])
    | (refine HD3_val rfl ?_; simp [hx, x.row_eq])
    | (refine HD3_put ?_; simp [hx, x.row_eq])
    | (refine HD3_chg rfl rfl ?_; simp [hx, x.row_eq])
    | (refine HD3_nil (hC _ _ (by kernel_rfl) (by kernel_rfl)) (hk _ ?_); clear hC hk C k; simp only [RK_seq, RK_seq_ret, RK_seq_exit, RK_blk, RK_blk_ret, RK_blk_exit, RK_loop, RK_loop_ret, RK_loop_exit, RK_done]; simp [St.ins, insL, putE, getK_setOb, getK_cons])
    | (refine V_drawE rfl (by kernel_rfl) (by kernel_rfl) (by simp [hn]) fun C k hC hk => ?_; simp [hx, x.row_eq])
    | (refine HD_guardU rfl (by simp [hx, x.row_eq]) ?_; simp [hx, x.row_eq])
    | (refine HD_guard rfl (by simp [hx, x.row_eq]) (fun hc => ?_) (fun hc => ?_) <;> (try simp [hx, x.row_eq] at hc) <;> (try (exfalso; omega)) <;> (try simp [hx, x.row_eq]))
    | (refine HD2_guardU rfl (by simp [hx, x.row_eq]) ?_; simp [hx, x.row_eq])
    | (refine HD2_guard rfl (by simp [hx, x.row_eq]) (fun hc => ?_) (fun hc => ?_) <;> (try simp [hx, x.row_eq] at hc) <;> (try (exfalso; omega)) <;> (try simp [hx, x.row_eq]))
    | (refine V_sblock ?_; simp [hx, x.row_eq])
    | (refine V_sregion ?_; simp [hx, x.row_eq])
    | (refine V_ret ?_; simp only [RK_seq, RK_seq_ret, RK_seq_exit, RK_blk, RK_blk_ret, RK_blk_exit, RK_loop, RK_loop_ret, RK_loop_exit, RK_done])
    | (refine V_skip ?_; simp only [RK_seq, RK_seq_ret, RK_seq_exit, RK_blk, RK_blk_ret, RK_blk_exit, RK_loop, RK_loop_ret, RK_loop_exit, RK_done])
    | (refine V_exit ?_; simp [RK_seq, RK_seq_ret, RK_seq_exit, RK_blk, RK_blk_ret, RK_blk_exit, RK_loop, RK_loop_ret, RK_loop_exit, RK_done])
    | (refine ⟨?_, by omega⟩)
    | (refine ⟨fun hc => ?_, fun hc => ?_⟩ <;> (try (exfalso; omega)))
    | (intro hc <;> (try (exfalso; omega)))
    | (refine CallV.fun_ (h5) (by first | rfl | fail) (by first | assumption | (simp; done) | fail) (by first | (simp [hx, x.row_eq]; done) | (simp [hx, x.row_eq]; rfl) | fail) (by first | (simp; done) | fail) ?_ <;> (try simp [hx, x.row_eq]))
    | (refine CallP.fun_ (h5) (by first | rfl | fail) (by first | assumption | (simp; done) | fail) (by first | (simp [hx, x.row_eq]; done) | (simp [hx, x.row_eq]; rfl) | fail) (by first | (simp; done) | fail) (fun d hd => ?_); subst hd; (try simp [hx, x.row_eq])))
        refine LoopW.next ⟨i + 1, (by omega : i + 1 ≤ e.args.length)⟩ (by simp; omega) ?_
        exact (Wk.ren ((fun i => if i = 4 then 6 else i)) rfl (by simp [hn]) (by simp [wkER, St.lp, keepE, getK_cons, getK, getK_del, getK_setOb, D.under, D.le, D.ren, hnext, htk] <;> (try (intros; simp_all; done)) <;> (try omega)) (by simp [wkR, St.lp, getK_cons, getK, getK_del, getK_setOb, obR, leU, pureRow, pureRows, Ob.under, D.under, D.le, D.ren, hnext, htk] <;> (try (intros; simp_all; done)) <;> (try omega)) (by simp))
end
end Go.Proofs.Ytehlmagdlkcifaa
