/- A step of the machine, told whole. -/
import Derived.Test.YtblmompdcammeaaWj
import Derived.Test.YtblmompdcammeaaWk
import Derived.Test.YtblmompdcammeaaWl
import Derived.Test.YtblmompdcammeaaWm
set_option linter.all false
namespace Go.Proofs.Ytblmompdcammeaa
open Go Go.VL
attribute [local simp] hcons hstep evPure opd uOf putOK St.put St.at getK binD binI binS binB nilD aggD eqUs cmpK shiftI arith unD convD pickD loadD cellsAt fieldAddrD fieldD indexAddrD indexD sliceD cutD lenD minmaxD nilCheckD buildD fillD cellsD isOne ones setAll mkAgg allU allocD boxD storeD St.add buildSliceD appendD rowsOf makeD setOb getK_setOb getK_del getK_cons stripL strip guardTmp entry chunks zcells valD argsV argsW argW argU1 argU0 argsU0 argsU1 calleeOf scalarD scalarU delAll effD St.effS applyW mkD rdIds lentIds callOf calleeOf freeOp D.ids Op.operands Call.operands isEffOp IntKind.bits allU2 allU2_append List.take_of_length_le List.range_succ
attribute [local irreducible] V G H HD HD2 RunK Eff CallP CallV EndOK Fun Ret FinOK LoopI LoopW EndW
/-- No instruction lies there. -/
theorem step_out (code : List Ins) (vs : List Var) (m : Mach) (o : List (Nat × Ob)) (nx : Nat) (hp : m.pc < 0 ∨ (code.length : Int) ≤ m.pc) (h : MOb m o nx) :
    Ret Try.prog 15 [.ptr 0 0, .u (inss code), .u (vars vs)] o nx (fun _ o n => MOb (stepM code vs m) o n) := by
  obtain ⟨pc, st, en, va, er⟩ := m
  simp only at hp
  have h0 : ∃ sd, getK o 0 = some (mbox pc sd en va er) := by
    rcases h with ⟨h1, h2⟩ | ⟨i, r, h1, h2, h3, h4, h5⟩
    · exact ⟨_, h2⟩
    · exact ⟨_, h4⟩
  obtain ⟨sd, h0⟩ := h0
  have hst : stepM code vs ⟨pc, st, en, va, er⟩ = Mach.fin ⟨pc, st, en, va, er⟩ 0 2 := by
    unfold stepM
    by_cases h : pc < 0
    · rw [if_pos h]
    · rw [if_neg h, show code[pc.toNat]? = none by rw [List.getElem?_eq_none_iff]; omega]
  rw [hst]
  (refine Ret.of_body Try.func15 rfl (by simp) fun Γ hn => ?_); simp only [entry, List.zipIdx_cons, List.zipIdx_nil, List.map_cons, List.map_nil, Nat.zero_add, Try.ntmps15]
  simp only [mbox, inss, vars] at h0 ⊢
  repeat' (first
    | (refine CallP.ret_ (end_ret _ _ _ _ _ _ _ _ _ (by first | (simp [h0]; done) | (simp [h0]; rfl))) (by rfl) (by first | assumption | simp) (by rfl) (by simp) ?_; rintro d o n' hn' ⟨hg, rfl⟩; (try simp at hn'); (try simp [h0]))
    | (refine H_cons ?_; simp [h0])
    | (refine H_nil ?_)
    | (refine HD_nil ?_)
    | (refine HD_cons ?_; simp [h0])
    | (refine HD_guardU rfl (by simp [h0]) ?_; simp [h0])
    | (refine HD_guard rfl (by simp [h0]) (fun hc => ?_) (fun hc => ?_) <;> (try simp [h0] at hc) <;> (try (exfalso; omega)) <;> (try simp [h0]))
    | (refine V_seq ?_)
    | (refine V_region1 fun k hk => ?_; simp [h0])
    | (refine V_drawV rfl (by kernel_rfl) (by kernel_rfl) fun k hk => ?_; simp [h0])
    | (refine V_drawE rfl (by kernel_rfl) (by kernel_rfl) (by simp [hn]) fun C k hC hk => ?_; simp [h0])
    | (refine HD2_nil (hC _ (by kernel_rfl)) (hk _ ?_); clear hC hk C k)
    | (refine HD2_val rfl ?_; simp [h0])
    | (refine HD2_chg rfl ?_; simp [h0])
    | (refine HD2_guardU rfl (by simp [h0]) ?_; simp [h0])
    | (refine HD2_guard rfl (by simp [h0]) (fun hc => ?_) (fun hc => ?_) <;> (try simp [h0] at hc) <;> (try (exfalso; omega)) <;> (try simp [h0]))
    | (refine V_block ?_)
        | (refine V_ret ?_)
    | (refine V_exit ?_)
    | (refine V_skip ?_)
    | (refine R_seq ?_)
    | (refine R_seq_ret ?_)
    | (refine R_seq_exit ?_)
    | (refine R_blk_ret ?_)
    | (refine R_blk ?_)
    | (refine R_blk_exit ?_)
    | (refine R_blk_other (by decide) ?_)
    | (refine R_loop_ret ?_)
    | (refine R_loop_exit ?_)
    | (refine R_loop ?_)
    | (refine R_done ?_)
    | (refine hk _ ?_; clear hk k)
    | (refine ⟨by omega, ?_⟩)
    | (refine ⟨?_, by omega⟩)
    | (refine ⟨fun hc => ?_, fun hc => ?_⟩ <;> (try (exfalso; omega)))
    | (refine V_cond rfl (fun hc => ?_) (fun hc => ?_) <;> (try simp [h0] at hc) <;> (try (exfalso; omega)))
    | (intro hc <;> (try (exfalso; omega))))
  all_goals
    (first | (refine EndOK.fin (.inr rfl) ?_) | (refine EndOK.fin (.inl rfl) ?_)); simp [resD, oneOrTup, Try.results15]
    refine FinOK.here (by first | (simp; done) | (simp; omega)) ?_
    exact .inl ⟨rfl, hg⟩
theorem step_ret (code : List Ins) (vs : List Var) (m : Mach) (o : List (Nat × Ob)) (nx : Nat) (hnx : 0 < nx) (h : MOb m o nx) (hlen : m.stack.length < 100000) :
    Ret Try.prog 15 [.ptr 0 0, .u (inss code), .u (vars vs)] o nx (fun _ o n => MOb (stepM code vs m) o n) := by
  by_cases hp : m.pc < 0 ∨ (code.length : Int) ≤ m.pc
  · exact step_out code vs m o nx hp h
  · obtain ⟨pc, st, en, va, er⟩ := m
    simp only [not_or, Int.not_lt, Int.not_le] at hp hlen
    have hpc : 0 ≤ pc := hp.1
    obtain ⟨c, hcd⟩ : ∃ c, code[pc.toNat]? = some c := ⟨code[pc.toNat]'(by omega), List.getElem?_eq_getElem _⟩
    rcases h with ⟨h1, h2⟩ | ⟨i, r, h1, h2, h3, h4, h5⟩
    · simp only at h1
      subst h1
      exact step_nil code vs pc en va er c o nx hnx hpc hcd h2
    · simp only at h3 h4
      cases hany : (st.any fun n => !okv n) with
      | true => exact step_any code vs pc en va er c o nx i r st hpc hcd h1 h2 h3 hany hlen h4 h5
      | false =>
        rcases List.eq_nil_or_concat st with rfl | ⟨s1, x, rfl⟩
        · exact step_0 code vs pc en va er c o nx i r hpc hcd h1 h2 h3 hany hlen h4 h5
        · rcases List.eq_nil_or_concat s1 with rfl | ⟨s2, y, rfl⟩
          · exact step_1 code vs pc en va er c o nx i r x hpc hcd h1 h2 h3 hany hlen h4 h5
          · have e : (s2 ++ [y]) ++ [x] = s2 ++ [y, x] := by simp
            simp only [List.concat_eq_append] at h3 h4 hany hlen ⊢
            rw [e] at h3 h4 hany hlen ⊢
            exact step_2 code vs pc en va er c o nx i r s2 y x hpc hcd h1 h2 h3 hany hlen h4 h5
end Go.Proofs.Ytblmompdcammeaa
