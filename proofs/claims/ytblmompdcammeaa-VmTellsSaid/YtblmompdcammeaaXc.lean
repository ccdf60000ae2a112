/- The reference's machine: a step, told whole. -/
import Derived.Test.YtblmompdcammeaaXb
set_option linter.all false
namespace Go.Proofs.Ytblmompdcammeaa
open Go Go.VL
attribute [local simp] hcons hstep evPure opd uOf putOK St.put St.at getK binD binI binS binB nilD aggD eqUs cmpK shiftI arith unD convD pickD loadD cellsAt fieldAddrD fieldD indexAddrD indexD sliceD cutD lenD minmaxD nilCheckD buildD fillD cellsD isOne ones setAll mkAgg allU allocD boxD storeD St.add buildSliceD appendD rowsOf makeD setOb getK_setOb getK_del getK_cons stripL strip guardTmp entry chunks zcells valD argsV argsW argW argU1 argU0 argsU0 argsU1 calleeOf scalarD scalarU delAll effD St.effS applyW mkD rdIds lentIds callOf calleeOf freeOp D.ids Op.operands Call.operands isEffOp IntKind.bits allU2 allU2_append List.take_of_length_le List.range_succ
attribute [local irreducible] V G H HD HD2 RunK Eff CallP CallV EndOK Fun Ret FinOK LoopI LoopW EndW
section
variable (code : List Ins) (vs : List Var) (pc : Int) (c : Ins) (st : List Int) (va er : Int) (hpc : 0 ≤ pc) (hcd : code[pc.toNat]? = some c) (hlen : st.length ≤ 100000) (hall : st.all okv = true)
include hpc hcd hlen hall
set_option maxHeartbeats 4000000 in
theorem rstep_bin (s2 : List Int) (y x : Int) (hst : st = s2 ++ [y, x]) (h0 : 0 ≤ c.op ∧ c.op < 15) (h1 : needs c.op = 2) : StepR code vs ⟨pc, st, false, va, er⟩ (stepI vs ⟨pc, st, false, 0, 0⟩ c) := by
  have hal := all_fun st
  rw [hall] at hal
  subst hst
  have hs1 : s2.length + 2 ≤ 100000 := by simpa using hlen
  have hop : c.op ≠ 0 ∧ c.op ≠ 1 ∧ c.op ≠ 12 ∧ c.op ≠ 13 ∧ c.op ≠ 14 ∧ c.op ≠ 11 := by
    unfold needs at h1
    split at h1 <;> (try split at h1) <;> omega
  obtain ⟨n0, n1, n12, n13, n14, n11⟩ := hop
  have hyx : (-1099511627776 ≤ y ∧ y ≤ 1099511627776) ∧ (-1099511627776 ≤ x ∧ x ≤ 1099511627776) := by
    have hy := List.all_eq_true.1 hall y (by simp)
    have hx := List.all_eq_true.1 hall x (by simp)
    simpa [okv] using And.intro hy hx
  have hbi := binary_fun c.op y x hyx.1 hyx.2
  have ht : stepI vs ⟨pc, s2 ++ [y, x], false, 0, 0⟩ c = if (binR c.op y x).2 = 0 then (if okv (binR c.op y x).1 then ⟨pc + 1, (s2 ++ [y, x]).take s2.length ++ [(binR c.op y x).1], false, 0, 0⟩ else ⟨pc, [], true, 0, 3⟩) else ⟨pc, [], true, 0, (binR c.op y x).2⟩ := by
    rw [stepI, if_neg n0, if_neg n1, if_neg n12, if_neg n13, if_neg n14, if_neg n11]
    have hd : Mach.drop ⟨pc, s2 ++ [y, x], false, 0, 0⟩ 2 = ⟨pc, s2, false, 0, 0⟩ := by simp [Mach.drop]
    have ht0 : Mach.top ⟨pc, s2 ++ [y, x], false, 0, 0⟩ 0 = x := by simp [Mach.top]
    have ht1 : Mach.top ⟨pc, s2 ++ [y, x], false, 0, 0⟩ 1 = y := by simp [Mach.top]
    rw [hd, ht0, ht1, push_eq]
    unfold binR
    by_cases h5 : c.op = 5 ∧ x = 0
    · simp [h5, Mach.fin]
    · rw [if_neg h5, if_neg h5]
      by_cases hk : okv (Pm.two c.op y x) = true
      · simp [hk]
      · simp [hk]
  rw [ht]
  generalize binR c.op y x = r at *
  obtain ⟨n, e⟩ := r
  simp only at hbi ⊢
  have hen := ends_fun pc 0 e
  by_cases he0 : e = 0
  · subst he0
    rw [if_pos rfl]
    have hpu0 := fun h => pushes_fun ⟨pc, s2 ++ [y, x], false, va, er⟩ s2.length n (by simp) (by simp; omega) h
    simp only at hpu0
    generalize (if okv n then (⟨pc + 1, (s2 ++ [y, x]).take s2.length ++ [n], false, 0, 0⟩ : Mach) else ⟨pc, [], true, 0, 3⟩) = m' at *
    have hlt := (List.getElem?_eq_some_iff.1 hcd).1
    have hpo := rpops_fun c.op
    (refine Fun.of_bodyW Try.func13 rfl (by simp) fun Γ hn => ?_); simp only [entry, List.zipIdx_cons, List.zipIdx_nil, List.map_cons, List.map_nil, Nat.zero_add, Try.ntmps13]
    simp only [magg, ints, inss, vars] at hal ⊢
    refine V_len (x := 0) rfl fun hl => ?_
    simp at hl
    have hpu := hpu0 ⟨by omega, by omega⟩
    simp only [magg, ints] at hpu
    repeat' (first
    | (first | (refine CallV.fun_ (hpo) (by rfl) (by first | assumption | (simp; done) | fail) (by first | (simp [hcd, h1, n0, n1, n12, n13, n14, n11]; done) | (simp [hcd, h1, n0, n1, n12, n13, n14, n11]; rfl)) (by first | (simp; done) | fail) ?_ <;> (try simp [hcd, h1, n0, n1, n12, n13, n14, n11])) | (refine CallP.fun_ (hpo) (by rfl) (by first | assumption | (simp; done) | fail) (by first | (simp [hcd, h1, n0, n1, n12, n13, n14, n11]; done) | (simp [hcd, h1, n0, n1, n12, n13, n14, n11]; rfl)) (by first | (simp; done) | fail) (fun d hd => ?_); subst hd; (try simp [hcd, h1, n0, n1, n12, n13, n14, n11])))
    | (first | (refine CallV.fun_ (hal) (by rfl) (by first | assumption | (simp; done) | fail) (by first | (simp [hcd, h1, n0, n1, n12, n13, n14, n11]; done) | (simp [hcd, h1, n0, n1, n12, n13, n14, n11]; rfl)) (by first | (simp; done) | fail) ?_ <;> (try simp [hcd, h1, n0, n1, n12, n13, n14, n11])) | (refine CallP.fun_ (hal) (by rfl) (by first | assumption | (simp; done) | fail) (by first | (simp [hcd, h1, n0, n1, n12, n13, n14, n11]; done) | (simp [hcd, h1, n0, n1, n12, n13, n14, n11]; rfl)) (by first | (simp; done) | fail) (fun d hd => ?_); subst hd; (try simp [hcd, h1, n0, n1, n12, n13, n14, n11])))
    | (first | (refine CallV.fun_ (hbi) (by rfl) (by first | assumption | (simp; done) | fail) (by first | (simp [hcd, h1, n0, n1, n12, n13, n14, n11]; done) | (simp [hcd, h1, n0, n1, n12, n13, n14, n11]; rfl)) (by first | (simp; done) | fail) ?_ <;> (try simp [hcd, h1, n0, n1, n12, n13, n14, n11])) | (refine CallP.fun_ (hbi) (by rfl) (by first | assumption | (simp; done) | fail) (by first | (simp [hcd, h1, n0, n1, n12, n13, n14, n11]; done) | (simp [hcd, h1, n0, n1, n12, n13, n14, n11]; rfl)) (by first | (simp; done) | fail) (fun d hd => ?_); subst hd; (try simp [hcd, h1, n0, n1, n12, n13, n14, n11])))
    | (first | (refine CallV.fun_ (hpu) (by rfl) (by first | assumption | (simp; done) | fail) (by first | (simp [hcd, h1, n0, n1, n12, n13, n14, n11]; done) | (simp [hcd, h1, n0, n1, n12, n13, n14, n11]; rfl)) (by first | (simp; done) | fail) ?_ <;> (try simp [hcd, h1, n0, n1, n12, n13, n14, n11])) | (refine CallP.fun_ (hpu) (by rfl) (by first | assumption | (simp; done) | fail) (by first | (simp [hcd, h1, n0, n1, n12, n13, n14, n11]; done) | (simp [hcd, h1, n0, n1, n12, n13, n14, n11]; rfl)) (by first | (simp; done) | fail) (fun d hd => ?_); subst hd; (try simp [hcd, h1, n0, n1, n12, n13, n14, n11])))
    | (refine H_cons ?_; simp [hcd, h1, n0, n1, n12, n13, n14, n11])
    | (refine H_nil ?_)
    | (refine HD_nil ?_)
    | (refine HD_cons ?_; simp [hcd, h1, n0, n1, n12, n13, n14, n11])
    | (refine HD_guardU rfl (by simp [hcd, h1, n0, n1, n12, n13, n14, n11]) ?_; simp [hcd, h1, n0, n1, n12, n13, n14, n11])
    | (refine HD_guard rfl (by simp [hcd, h1, n0, n1, n12, n13, n14, n11]) (fun hc => ?_) (fun hc => ?_) <;> (try simp [hcd, h1, n0, n1, n12, n13, n14, n11] at hc) <;> (try (exfalso; omega)) <;> (try simp [hcd, h1, n0, n1, n12, n13, n14, n11]))
    | (refine V_seq ?_)
    | (refine V_region1 fun k hk => ?_; simp [hcd, h1, n0, n1, n12, n13, n14, n11])
    | (refine V_drawV rfl (by kernel_rfl) (by kernel_rfl) fun k hk => ?_; simp [hcd, h1, n0, n1, n12, n13, n14, n11])
    | (refine V_drawE rfl (by kernel_rfl) (by kernel_rfl) (by simp [hn]) fun C k hC hk => ?_; simp [hcd, h1, n0, n1, n12, n13, n14, n11])
    | (refine HD2_nil (hC _ (by kernel_rfl)) (hk _ ?_); clear hC hk C k)
    | (refine HD2_val rfl ?_; simp [hcd, h1, n0, n1, n12, n13, n14, n11])
    | (refine HD2_chg rfl ?_; simp [hcd, h1, n0, n1, n12, n13, n14, n11])
    | (refine HD2_guardU rfl (by simp [hcd, h1, n0, n1, n12, n13, n14, n11]) ?_; simp [hcd, h1, n0, n1, n12, n13, n14, n11])
    | (refine HD2_guard rfl (by simp [hcd, h1, n0, n1, n12, n13, n14, n11]) (fun hc => ?_) (fun hc => ?_) <;> (try simp [hcd, h1, n0, n1, n12, n13, n14, n11] at hc) <;> (try (exfalso; omega)) <;> (try simp [hcd, h1, n0, n1, n12, n13, n14, n11]))
    | (refine V_block ?_)
        | (refine V_ret ?_)
    | (refine V_exit ?_)
    | (refine V_skip ?_)
    | (refine R_seq ?_)
    | (refine R_seq_ret ?_)
    | (refine R_seq_exit ?_)
    | (refine R_blk_ret ?_)
    | (refine R_blk ?_)
    | (refine R_blk_exit ?_)
    | (refine R_blk_other (by decide) ?_)
    | (refine R_loop_ret ?_)
    | (refine R_loop_exit ?_)
    | (refine R_loop ?_)
    | (refine R_done ?_)
    | (refine hk _ ?_; clear hk k)
    | (refine ⟨by omega, ?_⟩)
    | (refine ⟨?_, by omega⟩)
    | (refine ⟨fun hc => ?_, fun hc => ?_⟩ <;> (try (exfalso; omega)))
    | (refine V_cond rfl (fun hc => ?_) (fun hc => ?_) <;> (try simp [hcd, h1, n0, n1, n12, n13, n14, n11] at hc) <;> (try (exfalso; omega)))
    | (intro hc <;> (try (exfalso; omega))))
    refine EndW.here ?_
    (refine EndOK.val (.inr rfl) ?_; simp [resD, oneOrTup, pureD, Try.results13, frz_obs, frz_env, norm_obs, norm_env, frz, frzOb, normD, normU, norm1, normOb])
  · rw [if_neg he0]
    have hlt := (List.getElem?_eq_some_iff.1 hcd).1
    have hpo := rpops_fun c.op
    (refine Fun.of_bodyW Try.func13 rfl (by simp) fun Γ hn => ?_); simp only [entry, List.zipIdx_cons, List.zipIdx_nil, List.map_cons, List.map_nil, Nat.zero_add, Try.ntmps13]
    simp only [magg, ints, inss, vars] at hal ⊢
    refine V_len (x := 0) rfl fun hl => ?_
    simp at hl
    simp only [magg, ints, List.map_nil] at hen
    repeat' (first
    | (first | (refine CallV.fun_ (hpo) (by rfl) (by first | assumption | (simp; done) | fail) (by first | (simp [hcd, h1, n0, n1, n12, n13, n14, n11, he0]; done) | (simp [hcd, h1, n0, n1, n12, n13, n14, n11, he0]; rfl)) (by first | (simp; done) | fail) ?_ <;> (try simp [hcd, h1, n0, n1, n12, n13, n14, n11, he0])) | (refine CallP.fun_ (hpo) (by rfl) (by first | assumption | (simp; done) | fail) (by first | (simp [hcd, h1, n0, n1, n12, n13, n14, n11, he0]; done) | (simp [hcd, h1, n0, n1, n12, n13, n14, n11, he0]; rfl)) (by first | (simp; done) | fail) (fun d hd => ?_); subst hd; (try simp [hcd, h1, n0, n1, n12, n13, n14, n11, he0])))
    | (first | (refine CallV.fun_ (hal) (by rfl) (by first | assumption | (simp; done) | fail) (by first | (simp [hcd, h1, n0, n1, n12, n13, n14, n11, he0]; done) | (simp [hcd, h1, n0, n1, n12, n13, n14, n11, he0]; rfl)) (by first | (simp; done) | fail) ?_ <;> (try simp [hcd, h1, n0, n1, n12, n13, n14, n11, he0])) | (refine CallP.fun_ (hal) (by rfl) (by first | assumption | (simp; done) | fail) (by first | (simp [hcd, h1, n0, n1, n12, n13, n14, n11, he0]; done) | (simp [hcd, h1, n0, n1, n12, n13, n14, n11, he0]; rfl)) (by first | (simp; done) | fail) (fun d hd => ?_); subst hd; (try simp [hcd, h1, n0, n1, n12, n13, n14, n11, he0])))
    | (first | (refine CallV.fun_ (hbi) (by rfl) (by first | assumption | (simp; done) | fail) (by first | (simp [hcd, h1, n0, n1, n12, n13, n14, n11, he0]; done) | (simp [hcd, h1, n0, n1, n12, n13, n14, n11, he0]; rfl)) (by first | (simp; done) | fail) ?_ <;> (try simp [hcd, h1, n0, n1, n12, n13, n14, n11, he0])) | (refine CallP.fun_ (hbi) (by rfl) (by first | assumption | (simp; done) | fail) (by first | (simp [hcd, h1, n0, n1, n12, n13, n14, n11, he0]; done) | (simp [hcd, h1, n0, n1, n12, n13, n14, n11, he0]; rfl)) (by first | (simp; done) | fail) (fun d hd => ?_); subst hd; (try simp [hcd, h1, n0, n1, n12, n13, n14, n11, he0])))
    | (first | (refine CallV.fun_ (hen) (by rfl) (by first | assumption | (simp; done) | fail) (by first | (simp [hcd, h1, n0, n1, n12, n13, n14, n11, he0]; done) | (simp [hcd, h1, n0, n1, n12, n13, n14, n11, he0]; rfl)) (by first | (simp; done) | fail) ?_ <;> (try simp [hcd, h1, n0, n1, n12, n13, n14, n11, he0])) | (refine CallP.fun_ (hen) (by rfl) (by first | assumption | (simp; done) | fail) (by first | (simp [hcd, h1, n0, n1, n12, n13, n14, n11, he0]; done) | (simp [hcd, h1, n0, n1, n12, n13, n14, n11, he0]; rfl)) (by first | (simp; done) | fail) (fun d hd => ?_); subst hd; (try simp [hcd, h1, n0, n1, n12, n13, n14, n11, he0])))
    | (refine H_cons ?_; simp [hcd, h1, n0, n1, n12, n13, n14, n11, he0])
    | (refine H_nil ?_)
    | (refine HD_nil ?_)
    | (refine HD_cons ?_; simp [hcd, h1, n0, n1, n12, n13, n14, n11, he0])
    | (refine HD_guardU rfl (by simp [hcd, h1, n0, n1, n12, n13, n14, n11, he0]) ?_; simp [hcd, h1, n0, n1, n12, n13, n14, n11, he0])
    | (refine HD_guard rfl (by simp [hcd, h1, n0, n1, n12, n13, n14, n11, he0]) (fun hc => ?_) (fun hc => ?_) <;> (try simp [hcd, h1, n0, n1, n12, n13, n14, n11, he0] at hc) <;> (try (exfalso; omega)) <;> (try simp [hcd, h1, n0, n1, n12, n13, n14, n11, he0]))
    | (refine V_seq ?_)
    | (refine V_region1 fun k hk => ?_; simp [hcd, h1, n0, n1, n12, n13, n14, n11, he0])
    | (refine V_drawV rfl (by kernel_rfl) (by kernel_rfl) fun k hk => ?_; simp [hcd, h1, n0, n1, n12, n13, n14, n11, he0])
    | (refine V_drawE rfl (by kernel_rfl) (by kernel_rfl) (by simp [hn]) fun C k hC hk => ?_; simp [hcd, h1, n0, n1, n12, n13, n14, n11, he0])
    | (refine HD2_nil (hC _ (by kernel_rfl)) (hk _ ?_); clear hC hk C k)
    | (refine HD2_val rfl ?_; simp [hcd, h1, n0, n1, n12, n13, n14, n11, he0])
    | (refine HD2_chg rfl ?_; simp [hcd, h1, n0, n1, n12, n13, n14, n11, he0])
    | (refine HD2_guardU rfl (by simp [hcd, h1, n0, n1, n12, n13, n14, n11, he0]) ?_; simp [hcd, h1, n0, n1, n12, n13, n14, n11, he0])
    | (refine HD2_guard rfl (by simp [hcd, h1, n0, n1, n12, n13, n14, n11, he0]) (fun hc => ?_) (fun hc => ?_) <;> (try simp [hcd, h1, n0, n1, n12, n13, n14, n11, he0] at hc) <;> (try (exfalso; omega)) <;> (try simp [hcd, h1, n0, n1, n12, n13, n14, n11, he0]))
    | (refine V_block ?_)
        | (refine V_ret ?_)
    | (refine V_exit ?_)
    | (refine V_skip ?_)
    | (refine R_seq ?_)
    | (refine R_seq_ret ?_)
    | (refine R_seq_exit ?_)
    | (refine R_blk_ret ?_)
    | (refine R_blk ?_)
    | (refine R_blk_exit ?_)
    | (refine R_blk_other (by decide) ?_)
    | (refine R_loop_ret ?_)
    | (refine R_loop_exit ?_)
    | (refine R_loop ?_)
    | (refine R_done ?_)
    | (refine hk _ ?_; clear hk k)
    | (refine ⟨by omega, ?_⟩)
    | (refine ⟨?_, by omega⟩)
    | (refine ⟨fun hc => ?_, fun hc => ?_⟩ <;> (try (exfalso; omega)))
    | (refine V_cond rfl (fun hc => ?_) (fun hc => ?_) <;> (try simp [hcd, h1, n0, n1, n12, n13, n14, n11, he0] at hc) <;> (try (exfalso; omega)))
    | (intro hc <;> (try (exfalso; omega))))
    refine EndW.here ?_
    (refine EndOK.val (.inr rfl) ?_; simp [resD, oneOrTup, pureD, Try.results13, frz_obs, frz_env, norm_obs, norm_env, frz, frzOb, normD, normU, norm1, normOb])
set_option maxHeartbeats 4000000 in
theorem rstep_name (hop : c.op = 1) : StepR code vs ⟨pc, st, false, va, er⟩ (stepI vs ⟨pc, st, false, 0, 0⟩ c) := by
  have hal := all_fun st
  rw [hall] at hal
  have hne : needs c.op = 0 := by simp [needs, hop]
  rw [hop] at hne
  obtain ⟨T, hT⟩ : ∃ T, T = stepI vs ⟨pc, st, false, 0, 0⟩ c := ⟨_, rfl⟩
  rw [← hT]
  have h1 : vs.find? (fun v => decide (v.name = c.s)) = none → T = ⟨pc, [], true, 0, 13⟩ := fun h => by
    rw [hT, stepI, if_neg (by omega), if_pos hop, h]
    rfl
  have h2 : ∀ v, vs.find? (fun v => decide (v.name = c.s)) = some v → T = if okv v.n then ⟨pc + 1, st.take st.length ++ [v.n], false, 0, 0⟩ else ⟨pc, [], true, 0, 3⟩ := fun v h => by
    rw [hT, stepI, if_neg (by omega), if_pos hop, h, List.take_length]
    exact push_eq _ _ _
  have he := ends_fun pc 0 13
  clear hT
  have hlt := (List.getElem?_eq_some_iff.1 hcd).1
  have hpo := rpops_fun c.op
  (refine Fun.of_bodyW Try.func13 rfl (by simp) fun Γ hn => ?_); simp only [entry, List.zipIdx_cons, List.zipIdx_nil, List.map_cons, List.map_nil, Nat.zero_add, Try.ntmps13]
  simp only [magg, ints, inss, vars] at hal ⊢
  refine V_len (x := 0) rfl fun hl => ?_
  simp at hl
  refine V_len (x := 1) rfl fun hl1 => ?_
  simp at hl1
  have hpu0 := fun n => pushes_fun ⟨pc, st, false, va, er⟩ st.length n (Nat.le_refl _) (by simp; omega) (by simp; omega)
  simp only [magg, ints, List.map_nil] at he
  repeat' (first
    | (first | (refine CallV.fun_ (hpo) (by rfl) (by first | assumption | (simp; done) | fail) (by first | (simp [hcd, hop, hne]; done) | (simp [hcd, hop, hne]; rfl)) (by first | (simp; done) | fail) ?_ <;> (try simp [hcd, hop, hne])) | (refine CallP.fun_ (hpo) (by rfl) (by first | assumption | (simp; done) | fail) (by first | (simp [hcd, hop, hne]; done) | (simp [hcd, hop, hne]; rfl)) (by first | (simp; done) | fail) (fun d hd => ?_); subst hd; (try simp [hcd, hop, hne])))
    | (first | (refine CallV.fun_ (hal) (by rfl) (by first | assumption | (simp; done) | fail) (by first | (simp [hcd, hop, hne]; done) | (simp [hcd, hop, hne]; rfl)) (by first | (simp; done) | fail) ?_ <;> (try simp [hcd, hop, hne])) | (refine CallP.fun_ (hal) (by rfl) (by first | assumption | (simp; done) | fail) (by first | (simp [hcd, hop, hne]; done) | (simp [hcd, hop, hne]; rfl)) (by first | (simp; done) | fail) (fun d hd => ?_); subst hd; (try simp [hcd, hop, hne])))
    | (refine H_cons ?_; simp [hcd, hop, hne])
    | (refine H_nil ?_)
    | (refine HD_nil ?_)
    | (refine HD_cons ?_; simp [hcd, hop, hne])
    | (refine HD_guardU rfl (by simp [hcd, hop, hne]) ?_; simp [hcd, hop, hne])
    | (refine HD_guard rfl (by simp [hcd, hop, hne]) (fun hc => ?_) (fun hc => ?_) <;> (try simp [hcd, hop, hne] at hc) <;> (try (exfalso; omega)) <;> (try simp [hcd, hop, hne]))
    | (refine V_seq ?_)
    | (refine V_region1 fun k hk => ?_; simp [hcd, hop, hne])
    | (refine V_drawV rfl (by kernel_rfl) (by kernel_rfl) fun k hk => ?_; simp [hcd, hop, hne])
    | (refine V_drawE rfl (by kernel_rfl) (by kernel_rfl) (by simp [hn]) fun C k hC hk => ?_; simp [hcd, hop, hne])
    | (refine HD2_nil (hC _ (by kernel_rfl)) (hk _ ?_); clear hC hk C k)
    | (refine HD2_val rfl ?_; simp [hcd, hop, hne])
    | (refine HD2_chg rfl ?_; simp [hcd, hop, hne])
    | (refine HD2_guardU rfl (by simp [hcd, hop, hne]) ?_; simp [hcd, hop, hne])
    | (refine HD2_guard rfl (by simp [hcd, hop, hne]) (fun hc => ?_) (fun hc => ?_) <;> (try simp [hcd, hop, hne] at hc) <;> (try (exfalso; omega)) <;> (try simp [hcd, hop, hne]))
    | (refine V_block ?_)
        | (refine V_ret ?_)
    | (refine V_exit ?_)
    | (refine V_skip ?_)
    | (refine R_seq ?_)
    | (refine R_seq_ret ?_)
    | (refine R_seq_exit ?_)
    | (refine R_blk_ret ?_)
    | (refine R_blk ?_)
    | (refine R_blk_exit ?_)
    | (refine R_blk_other (by decide) ?_)
    | (refine R_loop_ret ?_)
    | (refine R_loop_exit ?_)
    | (refine R_loop ?_)
    | (refine R_done ?_)
    | (refine hk _ ?_; clear hk k)
    | (refine ⟨by omega, ?_⟩)
    | (refine ⟨?_, by omega⟩)
    | (refine ⟨fun hc => ?_, fun hc => ?_⟩ <;> (try (exfalso; omega)))
    | (refine V_cond rfl (fun hc => ?_) (fun hc => ?_) <;> (try simp [hcd, hop, hne] at hc) <;> (try (exfalso; omega)))
    | (intro hc <;> (try (exfalso; omega))))
  refine V_loopF (α := { i : Nat // i ≤ vs.length ∧ ∀ v ∈ vs.take i, v.name ≠ c.s }) [0, 1, 5, 6, 7, 8] (fun i => [(9, .u (.int .i64 i.1))]) (fun i => vs.length - i.1) ⟨0, by omega, by simp⟩ ?_ ?_
  · exact (Wk.env rfl rfl rfl (by simp [wkE, St.lp, keepE, getK_cons, getK] <;> (try (intros; simp_all; done)) <;> (try (intros; omega)) <;> (try grind)))
  rintro ⟨i, hi, hb⟩
  simp [St.lp, St.only, keepE, getK_cons, getK]
  rcases hx : vs[i]? with _ | v
  · have hge : vs.length ≤ i := by simpa using hx
    rw [List.take_of_length_le hge] at hb
    have hT := h1 (by rw [List.find?_eq_none]; intro v hv; simpa using hb v hv)
    subst hT
    repeat' (first
    | (first | (refine CallV.fun_ (he) (by rfl) (by first | assumption | (simp; done) | fail) (by first | (simp [hx]; done) | (simp [hx]; rfl)) (by first | (simp; done) | fail) ?_ <;> (try simp [hx])) | (refine CallP.fun_ (he) (by rfl) (by first | assumption | (simp; done) | fail) (by first | (simp [hx]; done) | (simp [hx]; rfl)) (by first | (simp; done) | fail) (fun d hd => ?_); subst hd; (try simp [hx])))
    | (refine H_cons ?_; simp [hx])
    | (refine H_nil ?_)
    | (refine HD_nil ?_)
    | (refine HD_cons ?_; simp [hx])
    | (refine HD_guardU rfl (by simp [hx]) ?_; simp [hx])
    | (refine HD_guard rfl (by simp [hx]) (fun hc => ?_) (fun hc => ?_) <;> (try simp [hx] at hc) <;> (try (exfalso; omega)) <;> (try simp [hx]))
    | (refine V_seq ?_)
    | (refine V_region1 fun k hk => ?_; simp [hx])
    | (refine V_drawV rfl (by kernel_rfl) (by kernel_rfl) fun k hk => ?_; simp [hx])
    | (refine V_drawE rfl (by kernel_rfl) (by kernel_rfl) (by simp [hn]) fun C k hC hk => ?_; simp [hx])
    | (refine HD2_nil (hC _ (by kernel_rfl)) (hk _ ?_); clear hC hk C k)
    | (refine HD2_val rfl ?_; simp [hx])
    | (refine HD2_chg rfl ?_; simp [hx])
    | (refine HD2_guardU rfl (by simp [hx]) ?_; simp [hx])
    | (refine HD2_guard rfl (by simp [hx]) (fun hc => ?_) (fun hc => ?_) <;> (try simp [hx] at hc) <;> (try (exfalso; omega)) <;> (try simp [hx]))
    | (refine V_block ?_)
        | (refine V_ret ?_)
    | (refine V_exit ?_)
    | (refine V_skip ?_)
    | (refine R_seq ?_)
    | (refine R_seq_ret ?_)
    | (refine R_seq_exit ?_)
    | (refine R_blk_ret ?_)
    | (refine R_blk ?_)
    | (refine R_blk_exit ?_)
    | (refine R_blk_other (by decide) ?_)
    | (refine R_loop_ret ?_)
    | (refine R_loop_exit ?_)
    | (refine R_loop ?_)
    | (refine R_done ?_)
    | (refine hk _ ?_; clear hk k)
    | (refine ⟨by omega, ?_⟩)
    | (refine ⟨?_, by omega⟩)
    | (refine ⟨fun hc => ?_, fun hc => ?_⟩ <;> (try (exfalso; omega)))
    | (refine V_cond rfl (fun hc => ?_) (fun hc => ?_) <;> (try simp [hx] at hc) <;> (try (exfalso; omega)))
    | (intro hc <;> (try (exfalso; omega))))
    refine EndW.here ?_
    (refine EndOK.val (.inr rfl) ?_; simp [resD, oneOrTup, pureD, Try.results13, frz_obs, frz_env, norm_obs, norm_env, frz, frzOb, normD, normU, norm1, normOb])
  · have hlt1 := (List.getElem?_eq_some_iff.1 hx).1
    by_cases hnm : v.name = c.s
    · have hT := h2 v (by
        rw [List.find?_eq_some_iff_getElem]
        refine ⟨by simpa using hnm, i, hlt1, (List.getElem?_eq_some_iff.1 hx).2, fun j hj => ?_⟩
        have := hb vs[j] (by rw [List.mem_take_iff_getElem]; exact ⟨j, by omega, rfl⟩)
        simpa using this)
      have hpu := hpu0 v.n
      simp only at hpu
      rw [← hT] at hpu
      simp only [magg, ints] at hpu
      repeat' (first
    | (first | (refine CallV.fun_ (hpu) (by rfl) (by first | assumption | (simp; done) | fail) (by first | (simp [hx, hnm]; done) | (simp [hx, hnm]; rfl)) (by first | (simp; done) | fail) ?_ <;> (try simp [hx, hnm])) | (refine CallP.fun_ (hpu) (by rfl) (by first | assumption | (simp; done) | fail) (by first | (simp [hx, hnm]; done) | (simp [hx, hnm]; rfl)) (by first | (simp; done) | fail) (fun d hd => ?_); subst hd; (try simp [hx, hnm])))
    | (refine H_cons ?_; simp [hx, hnm])
    | (refine H_nil ?_)
    | (refine HD_nil ?_)
    | (refine HD_cons ?_; simp [hx, hnm])
    | (refine HD_guardU rfl (by simp [hx, hnm]) ?_; simp [hx, hnm])
    | (refine HD_guard rfl (by simp [hx, hnm]) (fun hc => ?_) (fun hc => ?_) <;> (try simp [hx, hnm] at hc) <;> (try (exfalso; omega)) <;> (try simp [hx, hnm]))
    | (refine V_seq ?_)
    | (refine V_region1 fun k hk => ?_; simp [hx, hnm])
    | (refine V_drawV rfl (by kernel_rfl) (by kernel_rfl) fun k hk => ?_; simp [hx, hnm])
    | (refine V_drawE rfl (by kernel_rfl) (by kernel_rfl) (by simp [hn]) fun C k hC hk => ?_; simp [hx, hnm])
    | (refine HD2_nil (hC _ (by kernel_rfl)) (hk _ ?_); clear hC hk C k)
    | (refine HD2_val rfl ?_; simp [hx, hnm])
    | (refine HD2_chg rfl ?_; simp [hx, hnm])
    | (refine HD2_guardU rfl (by simp [hx, hnm]) ?_; simp [hx, hnm])
    | (refine HD2_guard rfl (by simp [hx, hnm]) (fun hc => ?_) (fun hc => ?_) <;> (try simp [hx, hnm] at hc) <;> (try (exfalso; omega)) <;> (try simp [hx, hnm]))
    | (refine V_block ?_)
        | (refine V_ret ?_)
    | (refine V_exit ?_)
    | (refine V_skip ?_)
    | (refine R_seq ?_)
    | (refine R_seq_ret ?_)
    | (refine R_seq_exit ?_)
    | (refine R_blk_ret ?_)
    | (refine R_blk ?_)
    | (refine R_blk_exit ?_)
    | (refine R_blk_other (by decide) ?_)
    | (refine R_loop_ret ?_)
    | (refine R_loop_exit ?_)
    | (refine R_loop ?_)
    | (refine R_done ?_)
    | (refine hk _ ?_; clear hk k)
    | (refine ⟨by omega, ?_⟩)
    | (refine ⟨?_, by omega⟩)
    | (refine ⟨fun hc => ?_, fun hc => ?_⟩ <;> (try (exfalso; omega)))
    | (refine V_cond rfl (fun hc => ?_) (fun hc => ?_) <;> (try simp [hx, hnm] at hc) <;> (try (exfalso; omega)))
    | (intro hc <;> (try (exfalso; omega))))
      refine EndW.here ?_
      (refine EndOK.val (.inr rfl) ?_; simp [resD, oneOrTup, pureD, Try.results13, frz_obs, frz_env, norm_obs, norm_env, frz, frzOb, normD, normU, norm1, normOb])
    · repeat' (first
    | (refine H_cons ?_; simp [hx, hnm])
    | (refine H_nil ?_)
    | (refine HD_nil ?_)
    | (refine HD_cons ?_; simp [hx, hnm])
    | (refine HD_guardU rfl (by simp [hx, hnm]) ?_; simp [hx, hnm])
    | (refine HD_guard rfl (by simp [hx, hnm]) (fun hc => ?_) (fun hc => ?_) <;> (try simp [hx, hnm] at hc) <;> (try (exfalso; omega)) <;> (try simp [hx, hnm]))
    | (refine V_seq ?_)
    | (refine V_region1 fun k hk => ?_; simp [hx, hnm])
    | (refine V_drawV rfl (by kernel_rfl) (by kernel_rfl) fun k hk => ?_; simp [hx, hnm])
    | (refine V_drawE rfl (by kernel_rfl) (by kernel_rfl) (by simp [hn]) fun C k hC hk => ?_; simp [hx, hnm])
    | (refine HD2_nil (hC _ (by kernel_rfl)) (hk _ ?_); clear hC hk C k)
    | (refine HD2_val rfl ?_; simp [hx, hnm])
    | (refine HD2_chg rfl ?_; simp [hx, hnm])
    | (refine HD2_guardU rfl (by simp [hx, hnm]) ?_; simp [hx, hnm])
    | (refine HD2_guard rfl (by simp [hx, hnm]) (fun hc => ?_) (fun hc => ?_) <;> (try simp [hx, hnm] at hc) <;> (try (exfalso; omega)) <;> (try simp [hx, hnm]))
    | (refine V_block ?_)
        | (refine V_ret ?_)
    | (refine V_exit ?_)
    | (refine V_skip ?_)
    | (refine R_seq ?_)
    | (refine R_seq_ret ?_)
    | (refine R_seq_exit ?_)
    | (refine R_blk_ret ?_)
    | (refine R_blk ?_)
    | (refine R_blk_exit ?_)
    | (refine R_blk_other (by decide) ?_)
    | (refine R_loop_ret ?_)
    | (refine R_loop_exit ?_)
    | (refine R_loop ?_)
    | (refine R_done ?_)
    | (refine hk _ ?_; clear hk k)
    | (refine ⟨by omega, ?_⟩)
    | (refine ⟨?_, by omega⟩)
    | (refine ⟨fun hc => ?_, fun hc => ?_⟩ <;> (try (exfalso; omega)))
    | (refine V_cond rfl (fun hc => ?_) (fun hc => ?_) <;> (try simp [hx, hnm] at hc) <;> (try (exfalso; omega)))
    | (intro hc <;> (try (exfalso; omega))))
      refine LoopW.next ⟨i + 1, by omega, Pm.take_succ_all hx hb hnm⟩ (by simp; omega) ?_
      exact (Wk.env rfl rfl rfl (by simp [wkE, St.lp, keepE, getK_cons, getK] <;> (try (intros; simp_all; done)) <;> (try (intros; omega)) <;> (try grind)))
end
theorem rstep_fun (code : List Ins) (vs : List Var) (m : Mach) (hlen : m.stack.length ≤ 100000) : StepR code vs m (stepV code vs m) := by
  obtain ⟨pc, st, en, va, er⟩ := m
  simp only at hlen
  cases en with
  | true => exact rstep_ended code vs pc st va er hlen
  | false =>
    show StepR code vs ⟨pc, st, false, va, er⟩ (stepM code vs ⟨pc, st, false, 0, 0⟩)
    by_cases hp : pc < 0 ∨ (code.length : Int) ≤ pc
    · have : stepM code vs ⟨pc, st, false, 0, 0⟩ = ⟨pc, [], true, 0, 2⟩ := by
        unfold stepM
        by_cases h : pc < 0
        · rw [if_pos h]; rfl
        · rw [if_neg h, show code[pc.toNat]? = none by rw [List.getElem?_eq_none_iff]; omega]; rfl
      rw [this]
      exact rstep_out code vs pc st va er hp
    · simp only [not_or, Int.not_lt, Int.not_le] at hp
      obtain ⟨c, hcd⟩ : ∃ c, code[pc.toNat]? = some c := ⟨code[pc.toNat]'(by omega), List.getElem?_eq_getElem _⟩
      rw [stepM_eq (m := ⟨pc, st, false, 0, 0⟩) hp.1 hcd]
      have hany : (st.any fun n => !okv n) = !(st.all okv) := by
        rw [List.not_all_eq_any_not]
      by_cases hbad : c.op < 0 ∨ 15 ≤ c.op ∨ (st.length : Int) < needs c.op ∨ st.all okv = false
      · rw [if_pos (by rw [hany]; simpa using hbad)]
        exact rstep_bad code vs pc c st va er hp.1 hcd hlen hbad
      · rw [if_neg (by rw [hany]; simpa using hbad)]
        simp only [not_or, Int.not_lt, Int.not_le, Bool.not_eq_false] at hbad
        obtain ⟨b1, b2, b3, hall⟩ := hbad
        have hne := needs_le c.op
        by_cases h0 : c.op = 0
        · exact rstep_num code vs pc c st va er hp.1 hcd hlen hall h0
        by_cases h1 : c.op = 1
        · exact rstep_name code vs pc c st va er hp.1 hcd hlen hall h1
        by_cases h12 : c.op = 12
        · exact rstep_jump code vs pc c st va er hp.1 hcd hlen hall h12
        have hn1 : 1 ≤ needs c.op := by omega
        rcases List.eq_nil_or_concat st with rfl | ⟨s1, x, rfl⟩
        · simp at b3; omega
        simp only [List.concat_eq_append] at *
        by_cases h13 : c.op = 13
        · exact rstep_false code vs pc c _ va er hp.1 hcd hlen hall s1 x rfl h13
        by_cases h14 : c.op = 14
        · exact rstep_end code vs pc c _ va er hp.1 hcd hlen hall s1 x rfl h14
        by_cases h11 : c.op = 11
        · exact rstep_not code vs pc c _ va er hp.1 hcd hlen hall s1 x rfl h11
        have hn2 : needs c.op = 2 := by omega
        rcases List.eq_nil_or_concat s1 with rfl | ⟨s2, y, rfl⟩
        · simp at b3; omega
        exact rstep_bin code vs pc c _ va er hp.1 hcd hlen hall s2 y x (by simp) ⟨b1, b2⟩ hn2
end Go.Proofs.Ytblmompdcammeaa
