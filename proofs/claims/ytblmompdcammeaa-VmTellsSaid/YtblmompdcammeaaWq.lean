/- The law's helper functions. -/
import Derived.Test.YtblmompdcammeaaWp
import Derived.Test.YtblmompdcammeaaVLz
set_option linter.all false
namespace Go.Pm
theorem take_succ_all {α : Type} {p : α → Prop} {l : List α} {i : Nat} {x : α} (hx : l[i]? = some x) (h : ∀ c ∈ l.take i, p c) (hp : p x) : ∀ c ∈ l.take (i + 1), p c := by
  obtain ⟨hi, rfl⟩ := List.getElem?_eq_some_iff.1 hx
  rw [List.take_succ_eq_append_getElem hi]
  intro c hc
  rcases List.mem_append.1 hc with hc | hc
  · exact h c hc
  · simp at hc; subst hc; exact hp
end Go.Pm
namespace Go.Proofs.Ytblmompdcammeaa
open Go Go.VL
def few (code : List Ins) (vs : List Var) (n : Int) : Bool :=
  decide ((code.length : Int) ≤ n) && decide (vs.length ≤ 20) && (code.all fun c => decide (c.s.length ≤ 60)) && vs.all fun v => decide (v.name.length ≤ 60)
attribute [local simp] hcons hstep evPure opd uOf putOK St.put St.at getK binD binI binS binB nilD aggD eqUs cmpK shiftI arith unD convD pickD loadD cellsAt fieldAddrD fieldD indexAddrD indexD sliceD cutD lenD minmaxD nilCheckD buildD fillD cellsD isOne ones setAll mkAgg allU allocD boxD storeD St.add buildSliceD appendD rowsOf makeD setOb getK_setOb getK_del getK_cons stripL strip guardTmp entry chunks zcells valD argsV argsW argW argU1 argU0 argsU0 argsU1 calleeOf scalarD scalarU delAll effD St.effS applyW mkD rdIds lentIds callOf calleeOf freeOp D.ids Op.operands Call.operands isEffOp IntKind.bits allU2 allU2_append List.take_of_length_le List.range_succ
attribute [local irreducible] V G H HD HD2 RunK Eff CallP CallV EndOK Fun Ret FinOK LoopI LoopW EndW
theorem is_fun (code : List Ins) (vs : List Var) (v n e : Int) : Fun Try.prog 14 [.u (inss code), .u (vars vs), .u (.int .i64 v), .u (.int .i64 n), .u (.int .i64 e)]
    (· = .u (.bool (decide (runM code vs 9 = (v, n, e))))) := by
  (refine Fun.of_body Try.func14 rfl (by simp) fun Γ hn => ?_); simp only [entry, List.zipIdx_cons, List.zipIdx_nil, List.map_cons, List.map_nil, Nat.zero_add, Try.ntmps14]
  repeat' (first
    | (first | (refine CallV.fun_ (run_fun code vs 9) (by rfl) (by first | assumption | (simp; done) | fail) (by first | (simp; done) | (simp; rfl)) (by first | (simp; done) | fail) ?_ <;> (try simp)) | (refine CallP.fun_ (run_fun code vs 9) (by rfl) (by first | assumption | (simp; done) | fail) (by first | (simp; done) | (simp; rfl)) (by first | (simp; done) | fail) (fun d hd => ?_); subst hd; (try simp)))
    | (refine H_cons ?_; simp)
    | (refine H_nil ?_)
    | (refine HD_nil ?_)
    | (refine HD_cons ?_; simp)
    | (refine HD_guardU rfl (by simp) ?_; simp)
    | (refine HD_guard rfl (by simp) (fun hc => ?_) (fun hc => ?_) <;> (try simp at hc) <;> (try (exfalso; omega)) <;> (try simp))
    | (refine V_seq ?_)
    | (refine V_region1 fun k hk => ?_; simp)
    | (refine V_drawV rfl (by kernel_rfl) (by kernel_rfl) fun k hk => ?_; simp)
    | (refine V_drawE rfl (by kernel_rfl) (by kernel_rfl) (by simp [hn]) fun C k hC hk => ?_; simp)
    | (refine HD2_nil (hC _ (by kernel_rfl)) (hk _ ?_); clear hC hk C k)
    | (refine HD2_val rfl ?_; simp)
    | (refine HD2_chg rfl ?_; simp)
    | (refine HD2_guardU rfl (by simp) ?_; simp)
    | (refine HD2_guard rfl (by simp) (fun hc => ?_) (fun hc => ?_) <;> (try simp at hc) <;> (try (exfalso; omega)) <;> (try simp))
    | (refine V_block ?_)
        | (refine V_ret ?_)
    | (refine V_exit ?_)
    | (refine V_skip ?_)
    | (refine R_seq ?_)
    | (refine R_seq_ret ?_)
    | (refine R_seq_exit ?_)
    | (refine R_blk_ret ?_)
    | (refine R_blk ?_)
    | (refine R_blk_exit ?_)
    | (refine R_blk_other (by decide) ?_)
    | (refine R_loop_ret ?_)
    | (refine R_loop_exit ?_)
    | (refine R_loop ?_)
    | (refine R_done ?_)
    | (refine hk _ ?_; clear hk k)
    | (refine ⟨by omega, ?_⟩)
    | (refine ⟨?_, by omega⟩)
    | (refine ⟨fun hc => ?_, fun hc => ?_⟩ <;> (try (exfalso; omega)))
    | (refine V_cond rfl (fun hc => ?_) (fun hc => ?_) <;> (try simp at hc) <;> (try (exfalso; omega)))
    | (intro hc <;> (try (exfalso; omega))))
  all_goals
    (refine EndOK.val (.inr rfl) ?_; simp [resD, oneOrTup, pureD, Try.results14])
  all_goals simp_all [Prod.ext_iff]
theorem few_no1 {code : List Ins} {vs : List Var} {n : Int} (h : ∃ c ∈ code, 60 < c.s.length) : few code vs n = false := by
  obtain ⟨c, h1, h2⟩ := h
  have : (code.all fun c => decide (c.s.length ≤ 60)) = false := by
    rw [List.all_eq_false]
    exact ⟨c, h1, by simpa using h2⟩
  simp [few, this]
theorem few_no2 {code : List Ins} {vs : List Var} {n : Int} (h : ∃ c ∈ vs, 60 < c.name.length) : few code vs n = false := by
  obtain ⟨c, h1, h2⟩ := h
  have : (vs.all fun c => decide (c.name.length ≤ 60)) = false := by
    rw [List.all_eq_false]
    exact ⟨c, h1, by simpa using h2⟩
  simp [few, this]
theorem few_yes {code : List Ins} {vs : List Var} {n : Int} (h : (code.length : Int) ≤ n → ∀ c ∈ code, c.s.length ≤ 60) (h' : vs.length ≤ 20 → ∀ c ∈ vs, c.name.length ≤ 60) : few code vs n = (decide ((code.length : Int) ≤ n) && decide (vs.length ≤ 20)) := by
  unfold few
  by_cases h1 : (code.length : Int) ≤ n
  · by_cases h2 : vs.length ≤ 20
    · have e1 : (code.all fun c => decide (c.s.length ≤ 60)) = true := by rw [List.all_eq_true]; intro c hc; simpa using h h1 c hc
      have e2 : (vs.all fun c => decide (c.name.length ≤ 60)) = true := by rw [List.all_eq_true]; intro c hc; simpa using h' h2 c hc
      rw [e1, e2]; simp
    · simp [h2]
  · simp [h1]
theorem few_fun (code : List Ins) (vs : List Var) (n : Int) : Fun Try.prog 7 [.u (inss code), .u (vars vs), .u (.int .i64 n)] (· = .u (.bool (few code vs n))) := by
  (refine Fun.of_body Try.func7 rfl (by simp) fun Γ hn => ?_); simp only [entry, List.zipIdx_cons, List.zipIdx_nil, List.map_cons, List.map_nil, Nat.zero_add, Try.ntmps7]
  simp only [inss, vars]
  refine V_len (x := 0) rfl fun hl => ?_
  refine V_len (x := 1) rfl fun hl1 => ?_
  simp at hl hl1
  repeat' (first
    | (refine H_cons ?_; simp)
    | (refine H_nil ?_)
    | (refine HD_nil ?_)
    | (refine HD_cons ?_; simp)
    | (refine HD_guardU rfl (by simp) ?_; simp)
    | (refine HD_guard rfl (by simp) (fun hc => ?_) (fun hc => ?_) <;> (try simp at hc) <;> (try (exfalso; omega)) <;> (try simp))
    | (refine V_seq ?_)
    | (refine V_region1 fun k hk => ?_; simp)
    | (refine V_drawV rfl (by kernel_rfl) (by kernel_rfl) fun k hk => ?_; simp)
    | (refine V_drawE rfl (by kernel_rfl) (by kernel_rfl) (by simp [hn]) fun C k hC hk => ?_; simp)
    | (refine HD2_nil (hC _ (by kernel_rfl)) (hk _ ?_); clear hC hk C k)
    | (refine HD2_val rfl ?_; simp)
    | (refine HD2_chg rfl ?_; simp)
    | (refine HD2_guardU rfl (by simp) ?_; simp)
    | (refine HD2_guard rfl (by simp) (fun hc => ?_) (fun hc => ?_) <;> (try simp at hc) <;> (try (exfalso; omega)) <;> (try simp))
    | (refine V_block ?_)
        | (refine V_ret ?_)
    | (refine V_exit ?_)
    | (refine V_skip ?_)
    | (refine R_seq ?_)
    | (refine R_seq_ret ?_)
    | (refine R_seq_exit ?_)
    | (refine R_blk_ret ?_)
    | (refine R_blk ?_)
    | (refine R_blk_exit ?_)
    | (refine R_blk_other (by decide) ?_)
    | (refine R_loop_ret ?_)
    | (refine R_loop_exit ?_)
    | (refine R_loop ?_)
    | (refine R_done ?_)
    | (refine hk _ ?_; clear hk k)
    | (refine ⟨by omega, ?_⟩)
    | (refine ⟨?_, by omega⟩)
    | (refine ⟨fun hc => ?_, fun hc => ?_⟩ <;> (try (exfalso; omega)))
    | (refine V_cond rfl (fun hc => ?_) (fun hc => ?_) <;> (try simp at hc) <;> (try (exfalso; omega)))
    | (intro hc <;> (try (exfalso; omega))))
  refine V_loopF (α := { i : Nat // i ≤ code.length ∧ ∀ c ∈ code.take i, c.s.length ≤ 60 }) [0, 1, 2] (fun i => [(7, .u (.int .i64 i.1))]) (fun i => code.length - i.1) ⟨0, by omega, by simp⟩ ?_ ?_
  · exact (Wk.env rfl rfl rfl (by simp [wkE, St.lp, keepE, getK_cons, getK] <;> (try (intros; simp_all; done)) <;> (try (intros; omega)) <;> (try grind)))
  rintro ⟨i, hi, hb⟩
  simp [St.lp, St.only, keepE, getK_cons, getK]
  have hfin : (code.length ≤ i ∨ n < i) → ((code.length : Int) ≤ n → ∀ c ∈ code, c.s.length ≤ 60) := fun h h1 => by
    rw [List.take_of_length_le (by omega)] at hb
    exact hb
  rcases hx : code[i]? with _ | c
  · have hge : code.length ≤ i := by simpa using hx
    have hfin := hfin (.inl hge)
    repeat' (first
    | (refine H_cons ?_; simp [hx])
    | (refine H_nil ?_)
    | (refine HD_nil ?_)
    | (refine HD_cons ?_; simp [hx])
    | (refine HD_guardU rfl (by simp [hx]) ?_; simp [hx])
    | (refine HD_guard rfl (by simp [hx]) (fun hc => ?_) (fun hc => ?_) <;> (try simp [hx] at hc) <;> (try (exfalso; omega)) <;> (try simp [hx]))
    | (refine V_seq ?_)
    | (refine V_region1 fun k hk => ?_; simp [hx])
    | (refine V_drawV rfl (by kernel_rfl) (by kernel_rfl) fun k hk => ?_; simp [hx])
    | (refine V_drawE rfl (by kernel_rfl) (by kernel_rfl) (by simp [hn]) fun C k hC hk => ?_; simp [hx])
    | (refine HD2_nil (hC _ (by kernel_rfl)) (hk _ ?_); clear hC hk C k)
    | (refine HD2_val rfl ?_; simp [hx])
    | (refine HD2_chg rfl ?_; simp [hx])
    | (refine HD2_guardU rfl (by simp [hx]) ?_; simp [hx])
    | (refine HD2_guard rfl (by simp [hx]) (fun hc => ?_) (fun hc => ?_) <;> (try simp [hx] at hc) <;> (try (exfalso; omega)) <;> (try simp [hx]))
    | (refine V_block ?_)
        | (refine V_ret ?_)
    | (refine V_exit ?_)
    | (refine V_skip ?_)
    | (refine R_seq ?_)
    | (refine R_seq_ret ?_)
    | (refine R_seq_exit ?_)
    | (refine R_blk_ret ?_)
    | (refine R_blk ?_)
    | (refine R_blk_exit ?_)
    | (refine R_blk_other (by decide) ?_)
    | (refine R_loop_ret ?_)
    | (refine R_loop_exit ?_)
    | (refine R_loop ?_)
    | (refine R_done ?_)
    | (refine hk _ ?_; clear hk k)
    | (refine ⟨by omega, ?_⟩)
    | (refine ⟨?_, by omega⟩)
    | (refine ⟨fun hc => ?_, fun hc => ?_⟩ <;> (try (exfalso; omega)))
    | (refine V_cond rfl (fun hc => ?_) (fun hc => ?_) <;> (try simp [hx] at hc) <;> (try (exfalso; omega)))
    | (intro hc <;> (try (exfalso; omega))))
    refine V_wk _ (Wk.only [0, 1, 2, 8]) ?_
    simp [St.lp, St.only, keepE, getK_cons, getK]
    refine V_loopF (α := { i : Nat // i ≤ vs.length ∧ ∀ c ∈ vs.take i, c.name.length ≤ 60 }) [0, 1, 2] (fun i => [(8, .u (.int .i64 i.1))]) (fun i => vs.length - i.1) ⟨0, by omega, by simp⟩ ?_ ?_
    · exact (Wk.env rfl rfl rfl (by simp [wkE, St.lp, keepE, getK_cons, getK] <;> (try (intros; simp_all; done)) <;> (try (intros; omega)) <;> (try grind)))
    rintro ⟨j, hj, hbj⟩
    simp [St.lp, St.only, keepE, getK_cons, getK]
    have hfj : (vs.length ≤ j ∨ 20 < j) → (vs.length ≤ 20 → ∀ c ∈ vs, c.name.length ≤ 60) := fun h h1 => by
      rw [List.take_of_length_le (by omega)] at hbj
      exact hbj
    rcases hy : vs[j]? with _ | v
    · have hge : vs.length ≤ j := by simpa using hy
      have hfj := hfj (.inl hge)
      repeat' (first
    | (refine H_cons ?_; simp [hy])
    | (refine H_nil ?_)
    | (refine HD_nil ?_)
    | (refine HD_cons ?_; simp [hy])
    | (refine HD_guardU rfl (by simp [hy]) ?_; simp [hy])
    | (refine HD_guard rfl (by simp [hy]) (fun hc => ?_) (fun hc => ?_) <;> (try simp [hy] at hc) <;> (try (exfalso; omega)) <;> (try simp [hy]))
    | (refine V_seq ?_)
    | (refine V_region1 fun k hk => ?_; simp [hy])
    | (refine V_drawV rfl (by kernel_rfl) (by kernel_rfl) fun k hk => ?_; simp [hy])
    | (refine V_drawE rfl (by kernel_rfl) (by kernel_rfl) (by simp [hn]) fun C k hC hk => ?_; simp [hy])
    | (refine HD2_nil (hC _ (by kernel_rfl)) (hk _ ?_); clear hC hk C k)
    | (refine HD2_val rfl ?_; simp [hy])
    | (refine HD2_chg rfl ?_; simp [hy])
    | (refine HD2_guardU rfl (by simp [hy]) ?_; simp [hy])
    | (refine HD2_guard rfl (by simp [hy]) (fun hc => ?_) (fun hc => ?_) <;> (try simp [hy] at hc) <;> (try (exfalso; omega)) <;> (try simp [hy]))
    | (refine V_block ?_)
        | (refine V_ret ?_)
    | (refine V_exit ?_)
    | (refine V_skip ?_)
    | (refine R_seq ?_)
    | (refine R_seq_ret ?_)
    | (refine R_seq_exit ?_)
    | (refine R_blk_ret ?_)
    | (refine R_blk ?_)
    | (refine R_blk_exit ?_)
    | (refine R_blk_other (by decide) ?_)
    | (refine R_loop_ret ?_)
    | (refine R_loop_exit ?_)
    | (refine R_loop ?_)
    | (refine R_done ?_)
    | (refine hk _ ?_; clear hk k)
    | (refine ⟨by omega, ?_⟩)
    | (refine ⟨?_, by omega⟩)
    | (refine ⟨fun hc => ?_, fun hc => ?_⟩ <;> (try (exfalso; omega)))
    | (refine V_cond rfl (fun hc => ?_) (fun hc => ?_) <;> (try simp [hy] at hc) <;> (try (exfalso; omega)))
    | (intro hc <;> (try (exfalso; omega))))
      all_goals
        (refine EndOK.val (.inr rfl) ?_; simp [resD, oneOrTup, pureD, Try.results7])
        rw [few_yes hfin hfj]
        first | (simp_all; done) | (simp_all; omega)
    · have hlt2 := (List.getElem?_eq_some_iff.1 hy).1
      repeat' (first
    | (refine H_cons ?_; simp [hy])
    | (refine H_nil ?_)
    | (refine HD_nil ?_)
    | (refine HD_cons ?_; simp [hy])
    | (refine HD_guardU rfl (by simp [hy]) ?_; simp [hy])
    | (refine HD_guard rfl (by simp [hy]) (fun hc => ?_) (fun hc => ?_) <;> (try simp [hy] at hc) <;> (try (exfalso; omega)) <;> (try simp [hy]))
    | (refine V_seq ?_)
    | (refine V_region1 fun k hk => ?_; simp [hy])
    | (refine V_drawV rfl (by kernel_rfl) (by kernel_rfl) fun k hk => ?_; simp [hy])
    | (refine V_drawE rfl (by kernel_rfl) (by kernel_rfl) (by simp [hn]) fun C k hC hk => ?_; simp [hy])
    | (refine HD2_nil (hC _ (by kernel_rfl)) (hk _ ?_); clear hC hk C k)
    | (refine HD2_val rfl ?_; simp [hy])
    | (refine HD2_chg rfl ?_; simp [hy])
    | (refine HD2_guardU rfl (by simp [hy]) ?_; simp [hy])
    | (refine HD2_guard rfl (by simp [hy]) (fun hc => ?_) (fun hc => ?_) <;> (try simp [hy] at hc) <;> (try (exfalso; omega)) <;> (try simp [hy]))
    | (refine V_block ?_)
        | (refine V_ret ?_)
    | (refine V_exit ?_)
    | (refine V_skip ?_)
    | (refine R_seq ?_)
    | (refine R_seq_ret ?_)
    | (refine R_seq_exit ?_)
    | (refine R_blk_ret ?_)
    | (refine R_blk ?_)
    | (refine R_blk_exit ?_)
    | (refine R_blk_other (by decide) ?_)
    | (refine R_loop_ret ?_)
    | (refine R_loop_exit ?_)
    | (refine R_loop ?_)
    | (refine R_done ?_)
    | (refine hk _ ?_; clear hk k)
    | (refine ⟨by omega, ?_⟩)
    | (refine ⟨?_, by omega⟩)
    | (refine ⟨fun hc => ?_, fun hc => ?_⟩ <;> (try (exfalso; omega)))
    | (refine V_cond rfl (fun hc => ?_) (fun hc => ?_) <;> (try simp [hy] at hc) <;> (try (exfalso; omega)))
    | (intro hc <;> (try (exfalso; omega))))
      · (refine EndOK.val (.inr rfl) ?_; simp [resD, oneOrTup, pureD, Try.results7])
        exact few_no2 ⟨v, List.mem_of_getElem? hy, by omega⟩
      · refine LoopW.next ⟨j + 1, by omega, Pm.take_succ_all hy hbj (by omega)⟩ (by simp; omega) ?_
        exact (Wk.env rfl rfl rfl (by simp [wkE, St.lp, keepE, getK_cons, getK] <;> (try (intros; simp_all; done)) <;> (try (intros; omega)) <;> (try grind)))
      all_goals
        have hfj := hfj (.inr (by omega))
        (refine EndOK.val (.inr rfl) ?_; simp [resD, oneOrTup, pureD, Try.results7])
        rw [few_yes hfin hfj]
        first | (simp_all; done) | (simp_all; omega)
  · have hlt := (List.getElem?_eq_some_iff.1 hx).1
    repeat' (first
    | (refine H_cons ?_; simp [hx])
    | (refine H_nil ?_)
    | (refine HD_nil ?_)
    | (refine HD_cons ?_; simp [hx])
    | (refine HD_guardU rfl (by simp [hx]) ?_; simp [hx])
    | (refine HD_guard rfl (by simp [hx]) (fun hc => ?_) (fun hc => ?_) <;> (try simp [hx] at hc) <;> (try (exfalso; omega)) <;> (try simp [hx]))
    | (refine V_seq ?_)
    | (refine V_region1 fun k hk => ?_; simp [hx])
    | (refine V_drawV rfl (by kernel_rfl) (by kernel_rfl) fun k hk => ?_; simp [hx])
    | (refine V_drawE rfl (by kernel_rfl) (by kernel_rfl) (by simp [hn]) fun C k hC hk => ?_; simp [hx])
    | (refine HD2_nil (hC _ (by kernel_rfl)) (hk _ ?_); clear hC hk C k)
    | (refine HD2_val rfl ?_; simp [hx])
    | (refine HD2_chg rfl ?_; simp [hx])
    | (refine HD2_guardU rfl (by simp [hx]) ?_; simp [hx])
    | (refine HD2_guard rfl (by simp [hx]) (fun hc => ?_) (fun hc => ?_) <;> (try simp [hx] at hc) <;> (try (exfalso; omega)) <;> (try simp [hx]))
    | (refine V_block ?_)
        | (refine V_ret ?_)
    | (refine V_exit ?_)
    | (refine V_skip ?_)
    | (refine R_seq ?_)
    | (refine R_seq_ret ?_)
    | (refine R_seq_exit ?_)
    | (refine R_blk_ret ?_)
    | (refine R_blk ?_)
    | (refine R_blk_exit ?_)
    | (refine R_blk_other (by decide) ?_)
    | (refine R_loop_ret ?_)
    | (refine R_loop_exit ?_)
    | (refine R_loop ?_)
    | (refine R_done ?_)
    | (refine hk _ ?_; clear hk k)
    | (refine ⟨by omega, ?_⟩)
    | (refine ⟨?_, by omega⟩)
    | (refine ⟨fun hc => ?_, fun hc => ?_⟩ <;> (try (exfalso; omega)))
    | (refine V_cond rfl (fun hc => ?_) (fun hc => ?_) <;> (try simp [hx] at hc) <;> (try (exfalso; omega)))
    | (intro hc <;> (try (exfalso; omega))))
    · (refine EndOK.val (.inr rfl) ?_; simp [resD, oneOrTup, pureD, Try.results7])
      exact few_no1 ⟨c, List.mem_of_getElem? hx, by omega⟩
    · refine LoopW.next ⟨i + 1, by omega, Pm.take_succ_all hx hb (by omega)⟩ (by simp; omega) ?_
      exact (Wk.env rfl rfl rfl (by simp [wkE, St.lp, keepE, getK_cons, getK] <;> (try (intros; simp_all; done)) <;> (try (intros; omega)) <;> (try grind)))
    have hfin := hfin (.inr (by omega))
    refine V_wk _ (Wk.only [0, 1, 2, 8]) ?_
    simp [St.lp, St.only, keepE, getK_cons, getK]
    refine V_loopF (α := { i : Nat // i ≤ vs.length ∧ ∀ c ∈ vs.take i, c.name.length ≤ 60 }) [0, 1, 2] (fun i => [(8, .u (.int .i64 i.1))]) (fun i => vs.length - i.1) ⟨0, by omega, by simp⟩ ?_ ?_
    · exact (Wk.env rfl rfl rfl (by simp [wkE, St.lp, keepE, getK_cons, getK] <;> (try (intros; simp_all; done)) <;> (try (intros; omega)) <;> (try grind)))
    rintro ⟨j, hj, hbj⟩
    simp [St.lp, St.only, keepE, getK_cons, getK]
    have hfj : (vs.length ≤ j ∨ 20 < j) → (vs.length ≤ 20 → ∀ c ∈ vs, c.name.length ≤ 60) := fun h h1 => by
      rw [List.take_of_length_le (by omega)] at hbj
      exact hbj
    rcases hy : vs[j]? with _ | v
    · have hge : vs.length ≤ j := by simpa using hy
      have hfj := hfj (.inl hge)
      repeat' (first
    | (refine H_cons ?_; simp [hy])
    | (refine H_nil ?_)
    | (refine HD_nil ?_)
    | (refine HD_cons ?_; simp [hy])
    | (refine HD_guardU rfl (by simp [hy]) ?_; simp [hy])
    | (refine HD_guard rfl (by simp [hy]) (fun hc => ?_) (fun hc => ?_) <;> (try simp [hy] at hc) <;> (try (exfalso; omega)) <;> (try simp [hy]))
    | (refine V_seq ?_)
    | (refine V_region1 fun k hk => ?_; simp [hy])
    | (refine V_drawV rfl (by kernel_rfl) (by kernel_rfl) fun k hk => ?_; simp [hy])
    | (refine V_drawE rfl (by kernel_rfl) (by kernel_rfl) (by simp [hn]) fun C k hC hk => ?_; simp [hy])
    | (refine HD2_nil (hC _ (by kernel_rfl)) (hk _ ?_); clear hC hk C k)
    | (refine HD2_val rfl ?_; simp [hy])
    | (refine HD2_chg rfl ?_; simp [hy])
    | (refine HD2_guardU rfl (by simp [hy]) ?_; simp [hy])
    | (refine HD2_guard rfl (by simp [hy]) (fun hc => ?_) (fun hc => ?_) <;> (try simp [hy] at hc) <;> (try (exfalso; omega)) <;> (try simp [hy]))
    | (refine V_block ?_)
        | (refine V_ret ?_)
    | (refine V_exit ?_)
    | (refine V_skip ?_)
    | (refine R_seq ?_)
    | (refine R_seq_ret ?_)
    | (refine R_seq_exit ?_)
    | (refine R_blk_ret ?_)
    | (refine R_blk ?_)
    | (refine R_blk_exit ?_)
    | (refine R_blk_other (by decide) ?_)
    | (refine R_loop_ret ?_)
    | (refine R_loop_exit ?_)
    | (refine R_loop ?_)
    | (refine R_done ?_)
    | (refine hk _ ?_; clear hk k)
    | (refine ⟨by omega, ?_⟩)
    | (refine ⟨?_, by omega⟩)
    | (refine ⟨fun hc => ?_, fun hc => ?_⟩ <;> (try (exfalso; omega)))
    | (refine V_cond rfl (fun hc => ?_) (fun hc => ?_) <;> (try simp [hy] at hc) <;> (try (exfalso; omega)))
    | (intro hc <;> (try (exfalso; omega))))
      all_goals
        (refine EndOK.val (.inr rfl) ?_; simp [resD, oneOrTup, pureD, Try.results7])
        rw [few_yes hfin hfj]
        first | (simp_all; done) | (simp_all; omega)
    · have hlt2 := (List.getElem?_eq_some_iff.1 hy).1
      repeat' (first
    | (refine H_cons ?_; simp [hy])
    | (refine H_nil ?_)
    | (refine HD_nil ?_)
    | (refine HD_cons ?_; simp [hy])
    | (refine HD_guardU rfl (by simp [hy]) ?_; simp [hy])
    | (refine HD_guard rfl (by simp [hy]) (fun hc => ?_) (fun hc => ?_) <;> (try simp [hy] at hc) <;> (try (exfalso; omega)) <;> (try simp [hy]))
    | (refine V_seq ?_)
    | (refine V_region1 fun k hk => ?_; simp [hy])
    | (refine V_drawV rfl (by kernel_rfl) (by kernel_rfl) fun k hk => ?_; simp [hy])
    | (refine V_drawE rfl (by kernel_rfl) (by kernel_rfl) (by simp [hn]) fun C k hC hk => ?_; simp [hy])
    | (refine HD2_nil (hC _ (by kernel_rfl)) (hk _ ?_); clear hC hk C k)
    | (refine HD2_val rfl ?_; simp [hy])
    | (refine HD2_chg rfl ?_; simp [hy])
    | (refine HD2_guardU rfl (by simp [hy]) ?_; simp [hy])
    | (refine HD2_guard rfl (by simp [hy]) (fun hc => ?_) (fun hc => ?_) <;> (try simp [hy] at hc) <;> (try (exfalso; omega)) <;> (try simp [hy]))
    | (refine V_block ?_)
        | (refine V_ret ?_)
    | (refine V_exit ?_)
    | (refine V_skip ?_)
    | (refine R_seq ?_)
    | (refine R_seq_ret ?_)
    | (refine R_seq_exit ?_)
    | (refine R_blk_ret ?_)
    | (refine R_blk ?_)
    | (refine R_blk_exit ?_)
    | (refine R_blk_other (by decide) ?_)
    | (refine R_loop_ret ?_)
    | (refine R_loop_exit ?_)
    | (refine R_loop ?_)
    | (refine R_done ?_)
    | (refine hk _ ?_; clear hk k)
    | (refine ⟨by omega, ?_⟩)
    | (refine ⟨?_, by omega⟩)
    | (refine ⟨fun hc => ?_, fun hc => ?_⟩ <;> (try (exfalso; omega)))
    | (refine V_cond rfl (fun hc => ?_) (fun hc => ?_) <;> (try simp [hy] at hc) <;> (try (exfalso; omega)))
    | (intro hc <;> (try (exfalso; omega))))
      · (refine EndOK.val (.inr rfl) ?_; simp [resD, oneOrTup, pureD, Try.results7])
        exact few_no2 ⟨v, List.mem_of_getElem? hy, by omega⟩
      · refine LoopW.next ⟨j + 1, by omega, Pm.take_succ_all hy hbj (by omega)⟩ (by simp; omega) ?_
        exact (Wk.env rfl rfl rfl (by simp [wkE, St.lp, keepE, getK_cons, getK] <;> (try (intros; simp_all; done)) <;> (try (intros; omega)) <;> (try grind)))
      all_goals
        have hfj := hfj (.inr (by omega))
        (refine EndOK.val (.inr rfl) ?_; simp [resD, oneOrTup, pureD, Try.results7])
        rw [few_yes hfin hfj]
        first | (simp_all; done) | (simp_all; omega)
def pot1 : List Var := [⟨[112, 111, 116], 0, 999⟩]
def codeA : List Ins := [⟨1, 0, [112, 111, 116]⟩, ⟨0, 50, []⟩, ⟨6, 0, []⟩, ⟨14, 0, []⟩]
def codeB : List Ins := [⟨0, -7, []⟩, ⟨0, 2, []⟩, ⟨5, 0, []⟩, ⟨14, 0, []⟩]
def codeC : List Ins := [⟨0, 0, []⟩, ⟨13, 3, []⟩, ⟨12, 0, []⟩, ⟨0, 1, []⟩, ⟨14, 0, []⟩]
theorem small_fun : Fun Try.prog 6 [] (· = .u (.bool true)) := by
  have h1 := is_fun codeA pot1 49 4 0
  have h2 := is_fun codeB [] (-4) 4 0
  have h3 := is_fun codeC [] 1 4 0
  have h4 := is_fun [⟨12, 0, []⟩] [] 0 9 16
  have h5 := is_fun [⟨2, 0, []⟩] [] 0 1 2
  rw [show decide (runM codeA pot1 9 = (49, 4, 0)) = true by decide +kernel] at h1
  rw [show decide (runM codeB [] 9 = (-4, 4, 0)) = true by decide +kernel] at h2
  rw [show decide (runM codeC [] 9 = (1, 4, 0)) = true by decide +kernel] at h3
  rw [show decide (runM [⟨12, 0, []⟩] [] 9 = (0, 9, 16)) = true by decide +kernel] at h4
  rw [show decide (runM [⟨2, 0, []⟩] [] 9 = (0, 1, 2)) = true by decide +kernel] at h5
  simp [inss, vars, codeA, codeB, codeC, pot1] at h1 h2 h3 h4 h5
  (refine Fun.of_body Try.func6 rfl (by simp) fun Γ hn => ?_); simp only [entry, List.zipIdx_cons, List.zipIdx_nil, List.map_cons, List.map_nil, Nat.zero_add, Try.ntmps6]
  repeat' (first
    | (first | (refine CallV.fun_ (h1) (by rfl) (by first | assumption | (simp; done) | fail) (by first | (simp [zcells, chunks, List.range_succ]; done) | (simp [zcells, chunks, List.range_succ]; rfl)) (by first | (simp; done) | fail) ?_ <;> (try simp [zcells, chunks, List.range_succ])) | (refine CallP.fun_ (h1) (by rfl) (by first | assumption | (simp; done) | fail) (by first | (simp [zcells, chunks, List.range_succ]; done) | (simp [zcells, chunks, List.range_succ]; rfl)) (by first | (simp; done) | fail) (fun d hd => ?_); subst hd; (try simp [zcells, chunks, List.range_succ])))
    | (first | (refine CallV.fun_ (h2) (by rfl) (by first | assumption | (simp; done) | fail) (by first | (simp [zcells, chunks, List.range_succ]; done) | (simp [zcells, chunks, List.range_succ]; rfl)) (by first | (simp; done) | fail) ?_ <;> (try simp [zcells, chunks, List.range_succ])) | (refine CallP.fun_ (h2) (by rfl) (by first | assumption | (simp; done) | fail) (by first | (simp [zcells, chunks, List.range_succ]; done) | (simp [zcells, chunks, List.range_succ]; rfl)) (by first | (simp; done) | fail) (fun d hd => ?_); subst hd; (try simp [zcells, chunks, List.range_succ])))
    | (first | (refine CallV.fun_ (h3) (by rfl) (by first | assumption | (simp; done) | fail) (by first | (simp [zcells, chunks, List.range_succ]; done) | (simp [zcells, chunks, List.range_succ]; rfl)) (by first | (simp; done) | fail) ?_ <;> (try simp [zcells, chunks, List.range_succ])) | (refine CallP.fun_ (h3) (by rfl) (by first | assumption | (simp; done) | fail) (by first | (simp [zcells, chunks, List.range_succ]; done) | (simp [zcells, chunks, List.range_succ]; rfl)) (by first | (simp; done) | fail) (fun d hd => ?_); subst hd; (try simp [zcells, chunks, List.range_succ])))
    | (first | (refine CallV.fun_ (h4) (by rfl) (by first | assumption | (simp; done) | fail) (by first | (simp [zcells, chunks, List.range_succ]; done) | (simp [zcells, chunks, List.range_succ]; rfl)) (by first | (simp; done) | fail) ?_ <;> (try simp [zcells, chunks, List.range_succ])) | (refine CallP.fun_ (h4) (by rfl) (by first | assumption | (simp; done) | fail) (by first | (simp [zcells, chunks, List.range_succ]; done) | (simp [zcells, chunks, List.range_succ]; rfl)) (by first | (simp; done) | fail) (fun d hd => ?_); subst hd; (try simp [zcells, chunks, List.range_succ])))
    | (first | (refine CallV.fun_ (h5) (by rfl) (by first | assumption | (simp; done) | fail) (by first | (simp [zcells, chunks, List.range_succ]; done) | (simp [zcells, chunks, List.range_succ]; rfl)) (by first | (simp; done) | fail) ?_ <;> (try simp [zcells, chunks, List.range_succ])) | (refine CallP.fun_ (h5) (by rfl) (by first | assumption | (simp; done) | fail) (by first | (simp [zcells, chunks, List.range_succ]; done) | (simp [zcells, chunks, List.range_succ]; rfl)) (by first | (simp; done) | fail) (fun d hd => ?_); subst hd; (try simp [zcells, chunks, List.range_succ])))
    | (refine H_cons ?_; simp [zcells, chunks, List.range_succ])
    | (refine H_nil ?_)
    | (refine HD_nil ?_)
    | (refine HD_cons ?_; simp [zcells, chunks, List.range_succ])
    | (refine HD_guardU rfl (by simp [zcells, chunks, List.range_succ]) ?_; simp [zcells, chunks, List.range_succ])
    | (refine HD_guard rfl (by simp [zcells, chunks, List.range_succ]) (fun hc => ?_) (fun hc => ?_) <;> (try simp [zcells, chunks, List.range_succ] at hc) <;> (try (exfalso; omega)) <;> (try simp [zcells, chunks, List.range_succ]))
    | (refine V_seq ?_)
    | (refine V_region1 fun k hk => ?_; simp [zcells, chunks, List.range_succ])
    | (refine V_drawV rfl (by kernel_rfl) (by kernel_rfl) fun k hk => ?_; simp [zcells, chunks, List.range_succ])
    | (refine V_drawE rfl (by kernel_rfl) (by kernel_rfl) (by simp [hn]) fun C k hC hk => ?_; simp [zcells, chunks, List.range_succ])
    | (refine HD2_nil (hC _ (by kernel_rfl)) (hk _ ?_); clear hC hk C k)
    | (refine HD2_val rfl ?_; simp [zcells, chunks, List.range_succ])
    | (refine HD2_chg rfl ?_; simp [zcells, chunks, List.range_succ])
    | (refine HD2_guardU rfl (by simp [zcells, chunks, List.range_succ]) ?_; simp [zcells, chunks, List.range_succ])
    | (refine HD2_guard rfl (by simp [zcells, chunks, List.range_succ]) (fun hc => ?_) (fun hc => ?_) <;> (try simp [zcells, chunks, List.range_succ] at hc) <;> (try (exfalso; omega)) <;> (try simp [zcells, chunks, List.range_succ]))
    | (refine V_block ?_)
        | (refine V_ret ?_)
    | (refine V_exit ?_)
    | (refine V_skip ?_)
    | (refine R_seq ?_)
    | (refine R_seq_ret ?_)
    | (refine R_seq_exit ?_)
    | (refine R_blk_ret ?_)
    | (refine R_blk ?_)
    | (refine R_blk_exit ?_)
    | (refine R_blk_other (by decide) ?_)
    | (refine R_loop_ret ?_)
    | (refine R_loop_exit ?_)
    | (refine R_loop ?_)
    | (refine R_done ?_)
    | (refine hk _ ?_; clear hk k)
    | (refine ⟨by omega, ?_⟩)
    | (refine ⟨?_, by omega⟩)
    | (refine ⟨fun hc => ?_, fun hc => ?_⟩ <;> (try (exfalso; omega)))
    | (refine V_cond rfl (fun hc => ?_) (fun hc => ?_) <;> (try simp [zcells, chunks, List.range_succ] at hc) <;> (try (exfalso; omega)))
    | (intro hc <;> (try (exfalso; omega))))
  all_goals
    (refine EndOK.val (.inr rfl) ?_; simp [resD, oneOrTup, pureD, Try.results6])
end Go.Proofs.Ytblmompdcammeaa
