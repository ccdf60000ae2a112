/- The reference's machine: a step. -/
import Derived.Test.YtblmompdcammeaaXa
set_option linter.all false
namespace Go.Proofs.Ytblmompdcammeaa
open Go Go.VL
attribute [local simp] hcons hstep evPure opd uOf putOK St.put St.at getK binD binI binS binB nilD aggD eqUs cmpK shiftI arith unD convD pickD loadD cellsAt fieldAddrD fieldD indexAddrD indexD sliceD cutD lenD minmaxD nilCheckD buildD fillD cellsD isOne ones setAll mkAgg allU allocD boxD storeD St.add buildSliceD appendD rowsOf makeD setOb getK_setOb getK_del getK_cons stripL strip guardTmp entry chunks zcells valD argsV argsW argW argU1 argU0 argsU0 argsU1 calleeOf scalarD scalarU delAll effD St.effS applyW mkD rdIds lentIds callOf calleeOf freeOp D.ids Op.operands Call.operands isEffOp IntKind.bits allU2 allU2_append List.take_of_length_le List.range_succ
attribute [local irreducible] V G H HD HD2 RunK Eff CallP CallV EndOK Fun Ret FinOK LoopI LoopW EndW
theorem rpops_fun (n : Int) : Fun Try.prog 19 [.u (.int .i64 n)] (· = .u (.int .i64 (needs n))) := by
  (refine Fun.of_body Try.func19 rfl (by simp) fun Γ hn => ?_); simp only [entry, List.zipIdx_cons, List.zipIdx_nil, List.map_cons, List.map_nil, Nat.zero_add, Try.ntmps19]
  repeat' (first
    | (refine H_cons ?_; simp)
    | (refine H_nil ?_)
    | (refine HD_nil ?_)
    | (refine HD_cons ?_; simp)
    | (refine HD_guardU rfl (by simp) ?_; simp)
    | (refine HD_guard rfl (by simp) (fun hc => ?_) (fun hc => ?_) <;> (try simp at hc) <;> (try (exfalso; omega)) <;> (try simp))
    | (refine V_seq ?_)
    | (refine V_region1 fun k hk => ?_; simp)
    | (refine V_drawV rfl (by kernel_rfl) (by kernel_rfl) fun k hk => ?_; simp)
    | (refine V_drawE rfl (by kernel_rfl) (by kernel_rfl) (by simp [hn]) fun C k hC hk => ?_; simp)
    | (refine HD2_nil (hC _ (by kernel_rfl)) (hk _ ?_); clear hC hk C k)
    | (refine HD2_val rfl ?_; simp)
    | (refine HD2_chg rfl ?_; simp)
    | (refine HD2_guardU rfl (by simp) ?_; simp)
    | (refine HD2_guard rfl (by simp) (fun hc => ?_) (fun hc => ?_) <;> (try simp at hc) <;> (try (exfalso; omega)) <;> (try simp))
    | (refine V_block ?_)
        | (refine V_ret ?_)
    | (refine V_exit ?_)
    | (refine V_skip ?_)
    | (refine R_seq ?_)
    | (refine R_seq_ret ?_)
    | (refine R_seq_exit ?_)
    | (refine R_blk_ret ?_)
    | (refine R_blk ?_)
    | (refine R_blk_exit ?_)
    | (refine R_blk_other (by decide) ?_)
    | (refine R_loop_ret ?_)
    | (refine R_loop_exit ?_)
    | (refine R_loop ?_)
    | (refine R_done ?_)
    | (refine hk _ ?_; clear hk k)
    | (refine ⟨by omega, ?_⟩)
    | (refine ⟨?_, by omega⟩)
    | (refine ⟨fun hc => ?_, fun hc => ?_⟩ <;> (try (exfalso; omega)))
    | (refine V_cond rfl (fun hc => ?_) (fun hc => ?_) <;> (try simp at hc) <;> (try (exfalso; omega)))
    | (intro hc <;> (try (exfalso; omega))))
  all_goals
  (refine EndOK.val (.inr rfl) ?_; simp [resD, oneOrTup, pureD, Try.results19])
  all_goals (unfold needs; simp_all)
abbrev StepR (code : List Ins) (vs : List Var) (m m' : Mach) : Prop := Fun Try.prog 13 [.u (inss code), .u (vars vs), .u (magg m)] (· = .u (magg m'))
theorem rstep_ended (code : List Ins) (vs : List Var) (pc : Int) (st : List Int) (va er : Int) (hl : st.length ≤ 100000) : StepR code vs ⟨pc, st, true, va, er⟩ ⟨pc, st, true, va, er⟩ := by
  (refine Fun.of_bodyW Try.func13 rfl (by simp) fun Γ hn => ?_); simp only [entry, List.zipIdx_cons, List.zipIdx_nil, List.map_cons, List.map_nil, Nat.zero_add, Try.ntmps13]
  simp only [magg, ints, inss, vars]
  repeat' (first
    | (refine H_cons ?_; simp)
    | (refine H_nil ?_)
    | (refine HD_nil ?_)
    | (refine HD_cons ?_; simp)
    | (refine HD_guardU rfl (by simp) ?_; simp)
    | (refine HD_guard rfl (by simp) (fun hc => ?_) (fun hc => ?_) <;> (try simp at hc) <;> (try (exfalso; omega)) <;> (try simp))
    | (refine V_seq ?_)
    | (refine V_region1 fun k hk => ?_; simp)
    | (refine V_drawV rfl (by kernel_rfl) (by kernel_rfl) fun k hk => ?_; simp)
    | (refine V_drawE rfl (by kernel_rfl) (by kernel_rfl) (by simp [hn]) fun C k hC hk => ?_; simp)
    | (refine HD2_nil (hC _ (by kernel_rfl)) (hk _ ?_); clear hC hk C k)
    | (refine HD2_val rfl ?_; simp)
    | (refine HD2_chg rfl ?_; simp)
    | (refine HD2_guardU rfl (by simp) ?_; simp)
    | (refine HD2_guard rfl (by simp) (fun hc => ?_) (fun hc => ?_) <;> (try simp at hc) <;> (try (exfalso; omega)) <;> (try simp))
    | (refine V_block ?_)
        | (refine V_ret ?_)
    | (refine V_exit ?_)
    | (refine V_skip ?_)
    | (refine R_seq ?_)
    | (refine R_seq_ret ?_)
    | (refine R_seq_exit ?_)
    | (refine R_blk_ret ?_)
    | (refine R_blk ?_)
    | (refine R_blk_exit ?_)
    | (refine R_blk_other (by decide) ?_)
    | (refine R_loop_ret ?_)
    | (refine R_loop_exit ?_)
    | (refine R_loop ?_)
    | (refine R_done ?_)
    | (refine hk _ ?_; clear hk k)
    | (refine ⟨by omega, ?_⟩)
    | (refine ⟨?_, by omega⟩)
    | (refine ⟨fun hc => ?_, fun hc => ?_⟩ <;> (try (exfalso; omega)))
    | (refine V_cond rfl (fun hc => ?_) (fun hc => ?_) <;> (try simp at hc) <;> (try (exfalso; omega)))
    | (intro hc <;> (try (exfalso; omega))))
  refine EndW.wk _ (Wk.frz 3 [1] (e := 3) (sz := 1) (rows := rowsD (st.map fun n => [U.int .i64 n])) (us := st.map fun n => [U.int .i64 n]) ?_ (allU2_rowsD _)) (EndW.here ?_)
  · simp [getK_setOb, getK_cons]
  (refine EndOK.val (.inr rfl) ?_; simp [resD, oneOrTup, pureD, Try.results13, frz_obs, frz_env, norm_obs, norm_env, frz, frzOb, normD, normU, norm1, normOb])
theorem rstep_out (code : List Ins) (vs : List Var) (pc : Int) (st : List Int) (va er : Int) (hp : pc < 0 ∨ (code.length : Int) ≤ pc) : StepR code vs ⟨pc, st, false, va, er⟩ ⟨pc, [], true, 0, 2⟩ := by
  have he := ends_fun pc 0 2
  (refine Fun.of_bodyW Try.func13 rfl (by simp) fun Γ hn => ?_); simp only [entry, List.zipIdx_cons, List.zipIdx_nil, List.map_cons, List.map_nil, Nat.zero_add, Try.ntmps13]
  simp only [magg, ints, inss, vars] at he ⊢
  repeat' (first
    | (first | (refine CallV.fun_ (he) (by rfl) (by first | assumption | (simp; done) | fail) (by first | (simp; done) | (simp; rfl)) (by first | (simp; done) | fail) ?_ <;> (try simp)) | (refine CallP.fun_ (he) (by rfl) (by first | assumption | (simp; done) | fail) (by first | (simp; done) | (simp; rfl)) (by first | (simp; done) | fail) (fun d hd => ?_); subst hd; (try simp)))
    | (refine H_cons ?_; simp)
    | (refine H_nil ?_)
    | (refine HD_nil ?_)
    | (refine HD_cons ?_; simp)
    | (refine HD_guardU rfl (by simp) ?_; simp)
    | (refine HD_guard rfl (by simp) (fun hc => ?_) (fun hc => ?_) <;> (try simp at hc) <;> (try (exfalso; omega)) <;> (try simp))
    | (refine V_seq ?_)
    | (refine V_region1 fun k hk => ?_; simp)
    | (refine V_drawV rfl (by kernel_rfl) (by kernel_rfl) fun k hk => ?_; simp)
    | (refine V_drawE rfl (by kernel_rfl) (by kernel_rfl) (by simp [hn]) fun C k hC hk => ?_; simp)
    | (refine HD2_nil (hC _ (by kernel_rfl)) (hk _ ?_); clear hC hk C k)
    | (refine HD2_val rfl ?_; simp)
    | (refine HD2_chg rfl ?_; simp)
    | (refine HD2_guardU rfl (by simp) ?_; simp)
    | (refine HD2_guard rfl (by simp) (fun hc => ?_) (fun hc => ?_) <;> (try simp at hc) <;> (try (exfalso; omega)) <;> (try simp))
    | (refine V_block ?_)
        | (refine V_ret ?_)
    | (refine V_exit ?_)
    | (refine V_skip ?_)
    | (refine R_seq ?_)
    | (refine R_seq_ret ?_)
    | (refine R_seq_exit ?_)
    | (refine R_blk_ret ?_)
    | (refine R_blk ?_)
    | (refine R_blk_exit ?_)
    | (refine R_blk_other (by decide) ?_)
    | (refine R_loop_ret ?_)
    | (refine R_loop_exit ?_)
    | (refine R_loop ?_)
    | (refine R_done ?_)
    | (refine hk _ ?_; clear hk k)
    | (refine ⟨by omega, ?_⟩)
    | (refine ⟨?_, by omega⟩)
    | (refine ⟨fun hc => ?_, fun hc => ?_⟩ <;> (try (exfalso; omega)))
    | (refine V_cond rfl (fun hc => ?_) (fun hc => ?_) <;> (try simp at hc) <;> (try (exfalso; omega)))
    | (intro hc <;> (try (exfalso; omega))))
  all_goals
    refine EndW.here ?_
    (refine EndOK.val (.inr rfl) ?_; simp [resD, oneOrTup, pureD, Try.results13, frz_obs, frz_env, norm_obs, norm_env, frz, frzOb, normD, normU, norm1, normOb])
theorem push_eq (pc : Int) (st : List Int) (n : Int) : Mach.push ⟨pc, st, false, 0, 0⟩ n = if okv n then ⟨pc + 1, st ++ [n], false, 0, 0⟩ else ⟨pc, [], true, 0, 3⟩ := by
  simp [Mach.push, Mach.fin]
section
variable (code : List Ins) (vs : List Var) (pc : Int) (c : Ins) (st : List Int) (va er : Int) (hpc : 0 ≤ pc) (hcd : code[pc.toNat]? = some c) (hlen : st.length ≤ 100000)
include hpc hcd hlen
theorem rstep_bad (h : c.op < 0 ∨ 15 ≤ c.op ∨ (st.length : Int) < needs c.op ∨ st.all okv = false) : StepR code vs ⟨pc, st, false, va, er⟩ ⟨pc, [], true, 0, 2⟩ := by
  have hlt := (List.getElem?_eq_some_iff.1 hcd).1
  have hpo := rpops_fun c.op
  have hal := all_fun st
  have he := ends_fun pc 0 2
  have hne := needs_le c.op
  cases hall : st.all okv
  all_goals
    rw [hall] at hal h
    simp only [Bool.true_eq_false, or_false] at h
    (refine Fun.of_bodyW Try.func13 rfl (by simp) fun Γ hn => ?_); simp only [entry, List.zipIdx_cons, List.zipIdx_nil, List.map_cons, List.map_nil, Nat.zero_add, Try.ntmps13]
    simp only [magg, ints, inss, vars, List.map_nil] at hal he ⊢
    refine V_len (x := 0) rfl fun hl => ?_
    simp at hl
    repeat' (first
    | (first | (refine CallV.fun_ (hpo) (by rfl) (by first | assumption | (simp; done) | fail) (by first | (simp [hcd]; done) | (simp [hcd]; rfl)) (by first | (simp; done) | fail) ?_ <;> (try simp [hcd])) | (refine CallP.fun_ (hpo) (by rfl) (by first | assumption | (simp; done) | fail) (by first | (simp [hcd]; done) | (simp [hcd]; rfl)) (by first | (simp; done) | fail) (fun d hd => ?_); subst hd; (try simp [hcd])))
    | (first | (refine CallV.fun_ (hal) (by rfl) (by first | assumption | (simp; done) | fail) (by first | (simp [hcd]; done) | (simp [hcd]; rfl)) (by first | (simp; done) | fail) ?_ <;> (try simp [hcd])) | (refine CallP.fun_ (hal) (by rfl) (by first | assumption | (simp; done) | fail) (by first | (simp [hcd]; done) | (simp [hcd]; rfl)) (by first | (simp; done) | fail) (fun d hd => ?_); subst hd; (try simp [hcd])))
    | (first | (refine CallV.fun_ (he) (by rfl) (by first | assumption | (simp; done) | fail) (by first | (simp [hcd]; done) | (simp [hcd]; rfl)) (by first | (simp; done) | fail) ?_ <;> (try simp [hcd])) | (refine CallP.fun_ (he) (by rfl) (by first | assumption | (simp; done) | fail) (by first | (simp [hcd]; done) | (simp [hcd]; rfl)) (by first | (simp; done) | fail) (fun d hd => ?_); subst hd; (try simp [hcd])))
    | (refine H_cons ?_; simp [hcd])
    | (refine H_nil ?_)
    | (refine HD_nil ?_)
    | (refine HD_cons ?_; simp [hcd])
    | (refine HD_guardU rfl (by simp [hcd]) ?_; simp [hcd])
    | (refine HD_guard rfl (by simp [hcd]) (fun hc => ?_) (fun hc => ?_) <;> (try simp [hcd] at hc) <;> (try (exfalso; omega)) <;> (try simp [hcd]))
    | (refine V_seq ?_)
    | (refine V_region1 fun k hk => ?_; simp [hcd])
    | (refine V_drawV rfl (by kernel_rfl) (by kernel_rfl) fun k hk => ?_; simp [hcd])
    | (refine V_drawE rfl (by kernel_rfl) (by kernel_rfl) (by simp [hn]) fun C k hC hk => ?_; simp [hcd])
    | (refine HD2_nil (hC _ (by kernel_rfl)) (hk _ ?_); clear hC hk C k)
    | (refine HD2_val rfl ?_; simp [hcd])
    | (refine HD2_chg rfl ?_; simp [hcd])
    | (refine HD2_guardU rfl (by simp [hcd]) ?_; simp [hcd])
    | (refine HD2_guard rfl (by simp [hcd]) (fun hc => ?_) (fun hc => ?_) <;> (try simp [hcd] at hc) <;> (try (exfalso; omega)) <;> (try simp [hcd]))
    | (refine V_block ?_)
        | (refine V_ret ?_)
    | (refine V_exit ?_)
    | (refine V_skip ?_)
    | (refine R_seq ?_)
    | (refine R_seq_ret ?_)
    | (refine R_seq_exit ?_)
    | (refine R_blk_ret ?_)
    | (refine R_blk ?_)
    | (refine R_blk_exit ?_)
    | (refine R_blk_other (by decide) ?_)
    | (refine R_loop_ret ?_)
    | (refine R_loop_exit ?_)
    | (refine R_loop ?_)
    | (refine R_done ?_)
    | (refine hk _ ?_; clear hk k)
    | (refine ⟨by omega, ?_⟩)
    | (refine ⟨?_, by omega⟩)
    | (refine ⟨fun hc => ?_, fun hc => ?_⟩ <;> (try (exfalso; omega)))
    | (refine V_cond rfl (fun hc => ?_) (fun hc => ?_) <;> (try simp [hcd] at hc) <;> (try (exfalso; omega)))
    | (intro hc <;> (try (exfalso; omega))))
    all_goals
      first
        | (refine EndW.here ?_; (refine EndOK.val (.inr rfl) ?_; simp [resD, oneOrTup, pureD, Try.results13, frz_obs, frz_env, norm_obs, norm_env, frz, frzOb, normD, normU, norm1, normOb]); done)
        | (exfalso; omega)
variable (hall : st.all okv = true)
include hall
theorem rstep_num (hop : c.op = 0) : StepR code vs ⟨pc, st, false, va, er⟩ (stepI vs ⟨pc, st, false, 0, 0⟩ c) := by
  have hal := all_fun st
  rw [hall] at hal
  have hne : needs c.op = 0 := by simp [needs, hop]
  rw [hop] at hne
  have ht : stepI vs ⟨pc, st, false, 0, 0⟩ c = if okv c.a then ⟨pc + 1, st.take st.length ++ [c.a], false, 0, 0⟩ else ⟨pc, [], true, 0, 3⟩ := by
    rw [stepI, if_pos hop, push_eq, List.take_length]
  rw [ht]
  have hpu0 := fun h => pushes_fun ⟨pc, st, false, va, er⟩ st.length c.a (Nat.le_refl _) (by simp; omega) h
  simp only at hpu0
  generalize (if okv c.a then (⟨pc + 1, st.take st.length ++ [c.a], false, 0, 0⟩ : Mach) else ⟨pc, [], true, 0, 3⟩) = m' at *
  have hlt := (List.getElem?_eq_some_iff.1 hcd).1
  have hpo := rpops_fun c.op
  (refine Fun.of_bodyW Try.func13 rfl (by simp) fun Γ hn => ?_); simp only [entry, List.zipIdx_cons, List.zipIdx_nil, List.map_cons, List.map_nil, Nat.zero_add, Try.ntmps13]
  simp only [magg, ints, inss, vars] at hal ⊢
  refine V_len (x := 0) rfl fun hl => ?_
  simp at hl
  have hpu := hpu0 ⟨by omega, by omega⟩
  simp only [magg, ints] at hpu
  repeat' (first
    | (first | (refine CallV.fun_ (hpo) (by rfl) (by first | assumption | (simp; done) | fail) (by first | (simp [hcd, hop, hne]; done) | (simp [hcd, hop, hne]; rfl)) (by first | (simp; done) | fail) ?_ <;> (try simp [hcd, hop, hne])) | (refine CallP.fun_ (hpo) (by rfl) (by first | assumption | (simp; done) | fail) (by first | (simp [hcd, hop, hne]; done) | (simp [hcd, hop, hne]; rfl)) (by first | (simp; done) | fail) (fun d hd => ?_); subst hd; (try simp [hcd, hop, hne])))
    | (first | (refine CallV.fun_ (hal) (by rfl) (by first | assumption | (simp; done) | fail) (by first | (simp [hcd, hop, hne]; done) | (simp [hcd, hop, hne]; rfl)) (by first | (simp; done) | fail) ?_ <;> (try simp [hcd, hop, hne])) | (refine CallP.fun_ (hal) (by rfl) (by first | assumption | (simp; done) | fail) (by first | (simp [hcd, hop, hne]; done) | (simp [hcd, hop, hne]; rfl)) (by first | (simp; done) | fail) (fun d hd => ?_); subst hd; (try simp [hcd, hop, hne])))
    | (first | (refine CallV.fun_ (hpu) (by rfl) (by first | assumption | (simp; done) | fail) (by first | (simp [hcd, hop, hne]; done) | (simp [hcd, hop, hne]; rfl)) (by first | (simp; done) | fail) ?_ <;> (try simp [hcd, hop, hne])) | (refine CallP.fun_ (hpu) (by rfl) (by first | assumption | (simp; done) | fail) (by first | (simp [hcd, hop, hne]; done) | (simp [hcd, hop, hne]; rfl)) (by first | (simp; done) | fail) (fun d hd => ?_); subst hd; (try simp [hcd, hop, hne])))
    | (refine H_cons ?_; simp [hcd, hop, hne])
    | (refine H_nil ?_)
    | (refine HD_nil ?_)
    | (refine HD_cons ?_; simp [hcd, hop, hne])
    | (refine HD_guardU rfl (by simp [hcd, hop, hne]) ?_; simp [hcd, hop, hne])
    | (refine HD_guard rfl (by simp [hcd, hop, hne]) (fun hc => ?_) (fun hc => ?_) <;> (try simp [hcd, hop, hne] at hc) <;> (try (exfalso; omega)) <;> (try simp [hcd, hop, hne]))
    | (refine V_seq ?_)
    | (refine V_region1 fun k hk => ?_; simp [hcd, hop, hne])
    | (refine V_drawV rfl (by kernel_rfl) (by kernel_rfl) fun k hk => ?_; simp [hcd, hop, hne])
    | (refine V_drawE rfl (by kernel_rfl) (by kernel_rfl) (by simp [hn]) fun C k hC hk => ?_; simp [hcd, hop, hne])
    | (refine HD2_nil (hC _ (by kernel_rfl)) (hk _ ?_); clear hC hk C k)
    | (refine HD2_val rfl ?_; simp [hcd, hop, hne])
    | (refine HD2_chg rfl ?_; simp [hcd, hop, hne])
    | (refine HD2_guardU rfl (by simp [hcd, hop, hne]) ?_; simp [hcd, hop, hne])
    | (refine HD2_guard rfl (by simp [hcd, hop, hne]) (fun hc => ?_) (fun hc => ?_) <;> (try simp [hcd, hop, hne] at hc) <;> (try (exfalso; omega)) <;> (try simp [hcd, hop, hne]))
    | (refine V_block ?_)
        | (refine V_ret ?_)
    | (refine V_exit ?_)
    | (refine V_skip ?_)
    | (refine R_seq ?_)
    | (refine R_seq_ret ?_)
    | (refine R_seq_exit ?_)
    | (refine R_blk_ret ?_)
    | (refine R_blk ?_)
    | (refine R_blk_exit ?_)
    | (refine R_blk_other (by decide) ?_)
    | (refine R_loop_ret ?_)
    | (refine R_loop_exit ?_)
    | (refine R_loop ?_)
    | (refine R_done ?_)
    | (refine hk _ ?_; clear hk k)
    | (refine ⟨by omega, ?_⟩)
    | (refine ⟨?_, by omega⟩)
    | (refine ⟨fun hc => ?_, fun hc => ?_⟩ <;> (try (exfalso; omega)))
    | (refine V_cond rfl (fun hc => ?_) (fun hc => ?_) <;> (try simp [hcd, hop, hne] at hc) <;> (try (exfalso; omega)))
    | (intro hc <;> (try (exfalso; omega))))
  refine EndW.here ?_
  (refine EndOK.val (.inr rfl) ?_; simp [resD, oneOrTup, pureD, Try.results13, frz_obs, frz_env, norm_obs, norm_env, frz, frzOb, normD, normU, norm1, normOb])
theorem rstep_jump (hop : c.op = 12) : StepR code vs ⟨pc, st, false, va, er⟩ (stepI vs ⟨pc, st, false, 0, 0⟩ c) := by
  have hal := all_fun st
  rw [hall] at hal
  have hne : needs c.op = 0 := by simp [needs, hop]
  rw [hop] at hne
  have ht : stepI vs ⟨pc, st, false, 0, 0⟩ c = ⟨c.a, st, false, 0, 0⟩ := by
    rw [stepI, if_neg (by omega), if_neg (by omega), if_pos hop]
  rw [ht]
  have hlt := (List.getElem?_eq_some_iff.1 hcd).1
  have hpo := rpops_fun c.op
  (refine Fun.of_bodyW Try.func13 rfl (by simp) fun Γ hn => ?_); simp only [entry, List.zipIdx_cons, List.zipIdx_nil, List.map_cons, List.map_nil, Nat.zero_add, Try.ntmps13]
  simp only [magg, ints, inss, vars] at hal ⊢
  refine V_len (x := 0) rfl fun hl => ?_
  simp at hl
  repeat' (first
    | (first | (refine CallV.fun_ (hpo) (by rfl) (by first | assumption | (simp; done) | fail) (by first | (simp [hcd, hop, hne]; done) | (simp [hcd, hop, hne]; rfl)) (by first | (simp; done) | fail) ?_ <;> (try simp [hcd, hop, hne])) | (refine CallP.fun_ (hpo) (by rfl) (by first | assumption | (simp; done) | fail) (by first | (simp [hcd, hop, hne]; done) | (simp [hcd, hop, hne]; rfl)) (by first | (simp; done) | fail) (fun d hd => ?_); subst hd; (try simp [hcd, hop, hne])))
    | (first | (refine CallV.fun_ (hal) (by rfl) (by first | assumption | (simp; done) | fail) (by first | (simp [hcd, hop, hne]; done) | (simp [hcd, hop, hne]; rfl)) (by first | (simp; done) | fail) ?_ <;> (try simp [hcd, hop, hne])) | (refine CallP.fun_ (hal) (by rfl) (by first | assumption | (simp; done) | fail) (by first | (simp [hcd, hop, hne]; done) | (simp [hcd, hop, hne]; rfl)) (by first | (simp; done) | fail) (fun d hd => ?_); subst hd; (try simp [hcd, hop, hne])))
    | (refine H_cons ?_; simp [hcd, hop, hne])
    | (refine H_nil ?_)
    | (refine HD_nil ?_)
    | (refine HD_cons ?_; simp [hcd, hop, hne])
    | (refine HD_guardU rfl (by simp [hcd, hop, hne]) ?_; simp [hcd, hop, hne])
    | (refine HD_guard rfl (by simp [hcd, hop, hne]) (fun hc => ?_) (fun hc => ?_) <;> (try simp [hcd, hop, hne] at hc) <;> (try (exfalso; omega)) <;> (try simp [hcd, hop, hne]))
    | (refine V_seq ?_)
    | (refine V_region1 fun k hk => ?_; simp [hcd, hop, hne])
    | (refine V_drawV rfl (by kernel_rfl) (by kernel_rfl) fun k hk => ?_; simp [hcd, hop, hne])
    | (refine V_drawE rfl (by kernel_rfl) (by kernel_rfl) (by simp [hn]) fun C k hC hk => ?_; simp [hcd, hop, hne])
    | (refine HD2_nil (hC _ (by kernel_rfl)) (hk _ ?_); clear hC hk C k)
    | (refine HD2_val rfl ?_; simp [hcd, hop, hne])
    | (refine HD2_chg rfl ?_; simp [hcd, hop, hne])
    | (refine HD2_guardU rfl (by simp [hcd, hop, hne]) ?_; simp [hcd, hop, hne])
    | (refine HD2_guard rfl (by simp [hcd, hop, hne]) (fun hc => ?_) (fun hc => ?_) <;> (try simp [hcd, hop, hne] at hc) <;> (try (exfalso; omega)) <;> (try simp [hcd, hop, hne]))
    | (refine V_block ?_)
        | (refine V_ret ?_)
    | (refine V_exit ?_)
    | (refine V_skip ?_)
    | (refine R_seq ?_)
    | (refine R_seq_ret ?_)
    | (refine R_seq_exit ?_)
    | (refine R_blk_ret ?_)
    | (refine R_blk ?_)
    | (refine R_blk_exit ?_)
    | (refine R_blk_other (by decide) ?_)
    | (refine R_loop_ret ?_)
    | (refine R_loop_exit ?_)
    | (refine R_loop ?_)
    | (refine R_done ?_)
    | (refine hk _ ?_; clear hk k)
    | (refine ⟨by omega, ?_⟩)
    | (refine ⟨?_, by omega⟩)
    | (refine ⟨fun hc => ?_, fun hc => ?_⟩ <;> (try (exfalso; omega)))
    | (refine V_cond rfl (fun hc => ?_) (fun hc => ?_) <;> (try simp [hcd, hop, hne] at hc) <;> (try (exfalso; omega)))
    | (intro hc <;> (try (exfalso; omega))))
  refine EndW.wk _ (Wk.frz 4 [1] (e := 3) (sz := 1) (rows := rowsD (st.map fun n => [U.int .i64 n])) (us := st.map fun n => [U.int .i64 n]) ?_ (allU2_rowsD _)) (EndW.here ?_)
  · simp [getK_setOb, getK_cons]
  (refine EndOK.val (.inr rfl) ?_; simp [resD, oneOrTup, pureD, Try.results13, frz_obs, frz_env, norm_obs, norm_env, frz, frzOb, normD, normU, norm1, normOb])
variable (s1 : List Int) (x : Int) (hst : st = s1 ++ [x])
include hst
theorem rstep_false (hop : c.op = 13) : StepR code vs ⟨pc, st, false, va, er⟩ (stepI vs ⟨pc, st, false, 0, 0⟩ c) := by
  have hal := all_fun st
  rw [hall] at hal
  have hne : needs c.op = 1 := by simp [needs, hop]
  rw [hop] at hne
  subst hst
  have hs1 : s1.length + 1 ≤ 100000 := by simpa using hlen
  have ht : stepI vs ⟨pc, s1 ++ [x], false, 0, 0⟩ c = ⟨if x = 0 then c.a else pc + 1, s1, false, 0, 0⟩ := by
    rw [stepI, if_neg (by omega), if_neg (by omega), if_neg (by omega), if_pos hop]
    simp [Mach.drop, Mach.top]
  rw [ht]
  by_cases hx0 : x = 0
  all_goals
    have hlt := (List.getElem?_eq_some_iff.1 hcd).1
    have hpo := rpops_fun c.op
    (refine Fun.of_bodyW Try.func13 rfl (by simp) fun Γ hn => ?_); simp only [entry, List.zipIdx_cons, List.zipIdx_nil, List.map_cons, List.map_nil, Nat.zero_add, Try.ntmps13]
    simp only [magg, ints, inss, vars] at hal ⊢
    refine V_len (x := 0) rfl fun hl => ?_
    simp at hl
    repeat' (first
    | (first | (refine CallV.fun_ (hpo) (by rfl) (by first | assumption | (simp; done) | fail) (by first | (simp [hcd, hop, hne, hx0]; done) | (simp [hcd, hop, hne, hx0]; rfl)) (by first | (simp; done) | fail) ?_ <;> (try simp [hcd, hop, hne, hx0])) | (refine CallP.fun_ (hpo) (by rfl) (by first | assumption | (simp; done) | fail) (by first | (simp [hcd, hop, hne, hx0]; done) | (simp [hcd, hop, hne, hx0]; rfl)) (by first | (simp; done) | fail) (fun d hd => ?_); subst hd; (try simp [hcd, hop, hne, hx0])))
    | (first | (refine CallV.fun_ (hal) (by rfl) (by first | assumption | (simp; done) | fail) (by first | (simp [hcd, hop, hne, hx0]; done) | (simp [hcd, hop, hne, hx0]; rfl)) (by first | (simp; done) | fail) ?_ <;> (try simp [hcd, hop, hne, hx0])) | (refine CallP.fun_ (hal) (by rfl) (by first | assumption | (simp; done) | fail) (by first | (simp [hcd, hop, hne, hx0]; done) | (simp [hcd, hop, hne, hx0]; rfl)) (by first | (simp; done) | fail) (fun d hd => ?_); subst hd; (try simp [hcd, hop, hne, hx0])))
    | (refine H_cons ?_; simp [hcd, hop, hne, hx0])
    | (refine H_nil ?_)
    | (refine HD_nil ?_)
    | (refine HD_cons ?_; simp [hcd, hop, hne, hx0])
    | (refine HD_guardU rfl (by simp [hcd, hop, hne, hx0]) ?_; simp [hcd, hop, hne, hx0])
    | (refine HD_guard rfl (by simp [hcd, hop, hne, hx0]) (fun hc => ?_) (fun hc => ?_) <;> (try simp [hcd, hop, hne, hx0] at hc) <;> (try (exfalso; omega)) <;> (try simp [hcd, hop, hne, hx0]))
    | (refine V_seq ?_)
    | (refine V_region1 fun k hk => ?_; simp [hcd, hop, hne, hx0])
    | (refine V_drawV rfl (by kernel_rfl) (by kernel_rfl) fun k hk => ?_; simp [hcd, hop, hne, hx0])
    | (refine V_drawE rfl (by kernel_rfl) (by kernel_rfl) (by simp [hn]) fun C k hC hk => ?_; simp [hcd, hop, hne, hx0])
    | (refine HD2_nil (hC _ (by kernel_rfl)) (hk _ ?_); clear hC hk C k)
    | (refine HD2_val rfl ?_; simp [hcd, hop, hne, hx0])
    | (refine HD2_chg rfl ?_; simp [hcd, hop, hne, hx0])
    | (refine HD2_guardU rfl (by simp [hcd, hop, hne, hx0]) ?_; simp [hcd, hop, hne, hx0])
    | (refine HD2_guard rfl (by simp [hcd, hop, hne, hx0]) (fun hc => ?_) (fun hc => ?_) <;> (try simp [hcd, hop, hne, hx0] at hc) <;> (try (exfalso; omega)) <;> (try simp [hcd, hop, hne, hx0]))
    | (refine V_block ?_)
        | (refine V_ret ?_)
    | (refine V_exit ?_)
    | (refine V_skip ?_)
    | (refine R_seq ?_)
    | (refine R_seq_ret ?_)
    | (refine R_seq_exit ?_)
    | (refine R_blk_ret ?_)
    | (refine R_blk ?_)
    | (refine R_blk_exit ?_)
    | (refine R_blk_other (by decide) ?_)
    | (refine R_loop_ret ?_)
    | (refine R_loop_exit ?_)
    | (refine R_loop ?_)
    | (refine R_done ?_)
    | (refine hk _ ?_; clear hk k)
    | (refine ⟨by omega, ?_⟩)
    | (refine ⟨?_, by omega⟩)
    | (refine ⟨fun hc => ?_, fun hc => ?_⟩ <;> (try (exfalso; omega)))
    | (refine V_cond rfl (fun hc => ?_) (fun hc => ?_) <;> (try simp [hcd, hop, hne, hx0] at hc) <;> (try (exfalso; omega)))
    | (intro hc <;> (try (exfalso; omega))))
    refine EndW.wk _ (Wk.frz 4 [1] (e := 3) (sz := 1) (rows := rowsD (s1.map fun n => [U.int .i64 n])) (us := s1.map fun n => [U.int .i64 n]) ?_ (allU2_rowsD _)) (EndW.here ?_)
    · simp [getK_setOb, getK_cons]
    (refine EndOK.val (.inr rfl) ?_; simp [resD, oneOrTup, pureD, Try.results13, frz_obs, frz_env, norm_obs, norm_env, frz, frzOb, normD, normU, norm1, normOb, hx0])
theorem rstep_end (hop : c.op = 14) : StepR code vs ⟨pc, st, false, va, er⟩ (stepI vs ⟨pc, st, false, 0, 0⟩ c) := by
  have hal := all_fun st
  rw [hall] at hal
  have hne : needs c.op = 1 := by simp [needs, hop]
  rw [hop] at hne
  subst hst
  have hs1 : s1.length + 1 ≤ 100000 := by simpa using hlen
  have ht : stepI vs ⟨pc, s1 ++ [x], false, 0, 0⟩ c = ⟨pc, [], true, x, 0⟩ := by
    rw [stepI, if_neg (by omega), if_neg (by omega), if_neg (by omega), if_neg (by omega), if_pos hop]
    simp [Mach.fin, Mach.top]
  rw [ht]
  have he := ends_fun pc x 0
  have hlt := (List.getElem?_eq_some_iff.1 hcd).1
  have hpo := rpops_fun c.op
  (refine Fun.of_bodyW Try.func13 rfl (by simp) fun Γ hn => ?_); simp only [entry, List.zipIdx_cons, List.zipIdx_nil, List.map_cons, List.map_nil, Nat.zero_add, Try.ntmps13]
  simp only [magg, ints, inss, vars] at hal ⊢
  refine V_len (x := 0) rfl fun hl => ?_
  simp at hl
  simp only [magg, ints, List.map_nil] at he
  repeat' (first
    | (first | (refine CallV.fun_ (hpo) (by rfl) (by first | assumption | (simp; done) | fail) (by first | (simp [hcd, hop, hne]; done) | (simp [hcd, hop, hne]; rfl)) (by first | (simp; done) | fail) ?_ <;> (try simp [hcd, hop, hne])) | (refine CallP.fun_ (hpo) (by rfl) (by first | assumption | (simp; done) | fail) (by first | (simp [hcd, hop, hne]; done) | (simp [hcd, hop, hne]; rfl)) (by first | (simp; done) | fail) (fun d hd => ?_); subst hd; (try simp [hcd, hop, hne])))
    | (first | (refine CallV.fun_ (hal) (by rfl) (by first | assumption | (simp; done) | fail) (by first | (simp [hcd, hop, hne]; done) | (simp [hcd, hop, hne]; rfl)) (by first | (simp; done) | fail) ?_ <;> (try simp [hcd, hop, hne])) | (refine CallP.fun_ (hal) (by rfl) (by first | assumption | (simp; done) | fail) (by first | (simp [hcd, hop, hne]; done) | (simp [hcd, hop, hne]; rfl)) (by first | (simp; done) | fail) (fun d hd => ?_); subst hd; (try simp [hcd, hop, hne])))
    | (first | (refine CallV.fun_ (he) (by rfl) (by first | assumption | (simp; done) | fail) (by first | (simp [hcd, hop, hne]; done) | (simp [hcd, hop, hne]; rfl)) (by first | (simp; done) | fail) ?_ <;> (try simp [hcd, hop, hne])) | (refine CallP.fun_ (he) (by rfl) (by first | assumption | (simp; done) | fail) (by first | (simp [hcd, hop, hne]; done) | (simp [hcd, hop, hne]; rfl)) (by first | (simp; done) | fail) (fun d hd => ?_); subst hd; (try simp [hcd, hop, hne])))
    | (refine H_cons ?_; simp [hcd, hop, hne])
    | (refine H_nil ?_)
    | (refine HD_nil ?_)
    | (refine HD_cons ?_; simp [hcd, hop, hne])
    | (refine HD_guardU rfl (by simp [hcd, hop, hne]) ?_; simp [hcd, hop, hne])
    | (refine HD_guard rfl (by simp [hcd, hop, hne]) (fun hc => ?_) (fun hc => ?_) <;> (try simp [hcd, hop, hne] at hc) <;> (try (exfalso; omega)) <;> (try simp [hcd, hop, hne]))
    | (refine V_seq ?_)
    | (refine V_region1 fun k hk => ?_; simp [hcd, hop, hne])
    | (refine V_drawV rfl (by kernel_rfl) (by kernel_rfl) fun k hk => ?_; simp [hcd, hop, hne])
    | (refine V_drawE rfl (by kernel_rfl) (by kernel_rfl) (by simp [hn]) fun C k hC hk => ?_; simp [hcd, hop, hne])
    | (refine HD2_nil (hC _ (by kernel_rfl)) (hk _ ?_); clear hC hk C k)
    | (refine HD2_val rfl ?_; simp [hcd, hop, hne])
    | (refine HD2_chg rfl ?_; simp [hcd, hop, hne])
    | (refine HD2_guardU rfl (by simp [hcd, hop, hne]) ?_; simp [hcd, hop, hne])
    | (refine HD2_guard rfl (by simp [hcd, hop, hne]) (fun hc => ?_) (fun hc => ?_) <;> (try simp [hcd, hop, hne] at hc) <;> (try (exfalso; omega)) <;> (try simp [hcd, hop, hne]))
    | (refine V_block ?_)
        | (refine V_ret ?_)
    | (refine V_exit ?_)
    | (refine V_skip ?_)
    | (refine R_seq ?_)
    | (refine R_seq_ret ?_)
    | (refine R_seq_exit ?_)
    | (refine R_blk_ret ?_)
    | (refine R_blk ?_)
    | (refine R_blk_exit ?_)
    | (refine R_blk_other (by decide) ?_)
    | (refine R_loop_ret ?_)
    | (refine R_loop_exit ?_)
    | (refine R_loop ?_)
    | (refine R_done ?_)
    | (refine hk _ ?_; clear hk k)
    | (refine ⟨by omega, ?_⟩)
    | (refine ⟨?_, by omega⟩)
    | (refine ⟨fun hc => ?_, fun hc => ?_⟩ <;> (try (exfalso; omega)))
    | (refine V_cond rfl (fun hc => ?_) (fun hc => ?_) <;> (try simp [hcd, hop, hne] at hc) <;> (try (exfalso; omega)))
    | (intro hc <;> (try (exfalso; omega))))
  refine EndW.here ?_
  (refine EndOK.val (.inr rfl) ?_; simp [resD, oneOrTup, pureD, Try.results13, frz_obs, frz_env, norm_obs, norm_env, frz, frzOb, normD, normU, norm1, normOb])
theorem rstep_not (hop : c.op = 11) : StepR code vs ⟨pc, st, false, va, er⟩ (stepI vs ⟨pc, st, false, 0, 0⟩ c) := by
  have hal := all_fun st
  rw [hall] at hal
  have hne : needs c.op = 1 := by simp [needs, hop]
  rw [hop] at hne
  subst hst
  have hs1 : s1.length + 1 ≤ 100000 := by simpa using hlen
  have ht : stepI vs ⟨pc, s1 ++ [x], false, 0, 0⟩ c = if okv (if x = 0 then 1 else 0) then ⟨pc + 1, (s1 ++ [x]).take s1.length ++ [if x = 0 then 1 else 0], false, 0, 0⟩ else ⟨pc, [], true, 0, 3⟩ := by
    rw [stepI, if_neg (by omega), if_neg (by omega), if_neg (by omega), if_neg (by omega), if_neg (by omega), if_pos hop]
    have : Mach.drop ⟨pc, s1 ++ [x], false, 0, 0⟩ 1 = ⟨pc, s1, false, 0, 0⟩ := by simp [Mach.drop]
    rw [this, push_eq]
    simp [Mach.top, Pm.truth]
  rw [ht]
  have hpu0 := fun h => pushes_fun ⟨pc, s1 ++ [x], false, va, er⟩ s1.length (if x = 0 then 1 else 0) (by simp) (by simp at hlen ⊢; omega) h
  simp only at hpu0
  generalize (if okv (if x = 0 then 1 else 0) then (⟨pc + 1, (s1 ++ [x]).take s1.length ++ [if x = 0 then 1 else 0], false, 0, 0⟩ : Mach) else ⟨pc, [], true, 0, 3⟩) = m' at *
  by_cases hx0 : x = 0
  all_goals
    simp only [hx0, if_true, if_false] at hpu0
    have hlt := (List.getElem?_eq_some_iff.1 hcd).1
    have hpo := rpops_fun c.op
    (refine Fun.of_bodyW Try.func13 rfl (by simp) fun Γ hn => ?_); simp only [entry, List.zipIdx_cons, List.zipIdx_nil, List.map_cons, List.map_nil, Nat.zero_add, Try.ntmps13]
    simp only [magg, ints, inss, vars] at hal ⊢
    refine V_len (x := 0) rfl fun hl => ?_
    simp at hl
    have hpu := hpu0 ⟨by omega, by omega⟩
    simp only [magg, ints] at hpu
    repeat' (first
    | (first | (refine CallV.fun_ (hpo) (by rfl) (by first | assumption | (simp; done) | fail) (by first | (simp [hcd, hop, hne, hx0]; done) | (simp [hcd, hop, hne, hx0]; rfl)) (by first | (simp; done) | fail) ?_ <;> (try simp [hcd, hop, hne, hx0])) | (refine CallP.fun_ (hpo) (by rfl) (by first | assumption | (simp; done) | fail) (by first | (simp [hcd, hop, hne, hx0]; done) | (simp [hcd, hop, hne, hx0]; rfl)) (by first | (simp; done) | fail) (fun d hd => ?_); subst hd; (try simp [hcd, hop, hne, hx0])))
    | (first | (refine CallV.fun_ (hal) (by rfl) (by first | assumption | (simp; done) | fail) (by first | (simp [hcd, hop, hne, hx0]; done) | (simp [hcd, hop, hne, hx0]; rfl)) (by first | (simp; done) | fail) ?_ <;> (try simp [hcd, hop, hne, hx0])) | (refine CallP.fun_ (hal) (by rfl) (by first | assumption | (simp; done) | fail) (by first | (simp [hcd, hop, hne, hx0]; done) | (simp [hcd, hop, hne, hx0]; rfl)) (by first | (simp; done) | fail) (fun d hd => ?_); subst hd; (try simp [hcd, hop, hne, hx0])))
    | (first | (refine CallV.fun_ (hpu) (by rfl) (by first | assumption | (simp; done) | fail) (by first | (simp [hcd, hop, hne, hx0]; done) | (simp [hcd, hop, hne, hx0]; rfl)) (by first | (simp; done) | fail) ?_ <;> (try simp [hcd, hop, hne, hx0])) | (refine CallP.fun_ (hpu) (by rfl) (by first | assumption | (simp; done) | fail) (by first | (simp [hcd, hop, hne, hx0]; done) | (simp [hcd, hop, hne, hx0]; rfl)) (by first | (simp; done) | fail) (fun d hd => ?_); subst hd; (try simp [hcd, hop, hne, hx0])))
    | (refine H_cons ?_; simp [hcd, hop, hne, hx0])
    | (refine H_nil ?_)
    | (refine HD_nil ?_)
    | (refine HD_cons ?_; simp [hcd, hop, hne, hx0])
    | (refine HD_guardU rfl (by simp [hcd, hop, hne, hx0]) ?_; simp [hcd, hop, hne, hx0])
    | (refine HD_guard rfl (by simp [hcd, hop, hne, hx0]) (fun hc => ?_) (fun hc => ?_) <;> (try simp [hcd, hop, hne, hx0] at hc) <;> (try (exfalso; omega)) <;> (try simp [hcd, hop, hne, hx0]))
    | (refine V_seq ?_)
    | (refine V_region1 fun k hk => ?_; simp [hcd, hop, hne, hx0])
    | (refine V_drawV rfl (by kernel_rfl) (by kernel_rfl) fun k hk => ?_; simp [hcd, hop, hne, hx0])
    | (refine V_drawE rfl (by kernel_rfl) (by kernel_rfl) (by simp [hn]) fun C k hC hk => ?_; simp [hcd, hop, hne, hx0])
    | (refine HD2_nil (hC _ (by kernel_rfl)) (hk _ ?_); clear hC hk C k)
    | (refine HD2_val rfl ?_; simp [hcd, hop, hne, hx0])
    | (refine HD2_chg rfl ?_; simp [hcd, hop, hne, hx0])
    | (refine HD2_guardU rfl (by simp [hcd, hop, hne, hx0]) ?_; simp [hcd, hop, hne, hx0])
    | (refine HD2_guard rfl (by simp [hcd, hop, hne, hx0]) (fun hc => ?_) (fun hc => ?_) <;> (try simp [hcd, hop, hne, hx0] at hc) <;> (try (exfalso; omega)) <;> (try simp [hcd, hop, hne, hx0]))
    | (refine V_block ?_)
        | (refine V_ret ?_)
    | (refine V_exit ?_)
    | (refine V_skip ?_)
    | (refine R_seq ?_)
    | (refine R_seq_ret ?_)
    | (refine R_seq_exit ?_)
    | (refine R_blk_ret ?_)
    | (refine R_blk ?_)
    | (refine R_blk_exit ?_)
    | (refine R_blk_other (by decide) ?_)
    | (refine R_loop_ret ?_)
    | (refine R_loop_exit ?_)
    | (refine R_loop ?_)
    | (refine R_done ?_)
    | (refine hk _ ?_; clear hk k)
    | (refine ⟨by omega, ?_⟩)
    | (refine ⟨?_, by omega⟩)
    | (refine ⟨fun hc => ?_, fun hc => ?_⟩ <;> (try (exfalso; omega)))
    | (refine V_cond rfl (fun hc => ?_) (fun hc => ?_) <;> (try simp [hcd, hop, hne, hx0] at hc) <;> (try (exfalso; omega)))
    | (intro hc <;> (try (exfalso; omega))))
    refine EndW.here ?_
    (refine EndOK.val (.inr rfl) ?_; simp [resD, oneOrTup, pureD, Try.results13, frz_obs, frz_env, norm_obs, norm_env, frz, frzOb, normD, normU, norm1, normOb])
end
end Go.Proofs.Ytblmompdcammeaa
