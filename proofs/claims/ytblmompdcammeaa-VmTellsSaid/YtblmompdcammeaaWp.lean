/- A run of the machine. -/
import Derived.Test.YtblmompdcammeaaWo
set_option linter.all false
namespace Go.Proofs.Ytblmompdcammeaa
open Go Go.VL
/-- k more steps, of which n are done. -/
def runK (code : List Ins) (vs : List Var) (fuel : Int) : Nat → Int → Mach → Int × Int × Int
  | 0, _, _ => (0, fuel, 16)
  | k + 1, n, m => let m' := stepM code vs m
    if m'.en then (m'.va, n + 1, m'.er) else runK code vs fuel k (n + 1) m'
def run0 : Mach := ⟨0, [], false, 0, 0⟩
def runM (code : List Ins) (vs : List Var) (fuel : Int) : Int × Int × Int :=
  if fuel < 0 ∨ 100000 < fuel then (0, 0, 1) else runK code vs fuel fuel.toNat 0 run0
theorem Mach.push_len (m : Mach) (x : Int) : (m.push x).stack.length ≤ m.stack.length + 1 := by
  unfold Mach.push Mach.fin
  split <;> simp
theorem Mach.drop_len (m : Mach) (k : Nat) : (m.drop k).stack.length ≤ m.stack.length := by
  simp [Mach.drop]
theorem stepI_len (vs : List Var) (m : Mach) (c : Ins) : (stepI vs m c).stack.length ≤ m.stack.length + 1 := by
  have h1 := Mach.drop_len m 1
  have h2 := Mach.drop_len m 2
  have h3 := Mach.push_len (m.drop 1) (Pm.truth (decide (m.top 0 = 0)))
  have h4 := Mach.push_len (m.drop 2) (Pm.two c.op (m.top 1) (m.top 0))
  unfold stepI
  split
  · exact Mach.push_len _ _
  split
  · split
    · simp [Mach.fin]
    · exact Mach.push_len _ _
  split
  · simp
  split
  · simp only
    omega
  split
  · simp [Mach.fin]
  split
  · omega
  split
  · simp [Mach.fin]
  · omega
theorem stepM_len (code : List Ins) (vs : List Var) (m : Mach) : (stepM code vs m).stack.length ≤ m.stack.length + 1 := by
  unfold stepM
  split
  · simp [Mach.fin]
  split
  · simp [Mach.fin]
  split
  · simp [Mach.fin]
  · exact stepI_len _ _ _
/-- Where a run stands: the steps done, the machine, its stack's rows. -/
structure RunAt (code : List Ins) (vs : List Var) (fuel : Int) where
  n : Nat
  m : Mach
  rows : Option (List Int)
  hn : (n : Int) ≤ fuel
  hlen : m.stack.length ≤ n
  hrun : runK code vs fuel (fuel.toNat - n) n m = runK code vs fuel fuel.toNat 0 run0
  hrows : match rows with | none => m.stack = [] | some r => r.take m.stack.length = m.stack
def RunAt.obs {code vs fuel} (x : RunAt code vs fuel) : List (Nat × Ob) :=
  match x.rows with
  | none => [(0, mbox x.m.pc (.u .nil) x.m.en x.m.va x.m.er)]
  | some r => [(0, mbox x.m.pc (.vec 1 x.m.stack.length) x.m.en x.m.va x.m.er), (1, .vec 3 1 (stk r))]
theorem RunAt.mob {code vs fuel} (x : RunAt code vs fuel) : MOb x.m x.obs 2 := by
  obtain ⟨n, m, rows, h1, h2, h3, h4⟩ := x
  cases rows with
  | none => exact .inl ⟨h4, rfl⟩
  | some r => exact .inr ⟨1, r, by omega, by omega, h4, rfl, rfl⟩
attribute [local simp] hcons hstep evPure opd uOf putOK St.put St.at getK binD binI binS binB nilD aggD eqUs cmpK shiftI arith unD convD pickD loadD cellsAt fieldAddrD fieldD indexAddrD indexD sliceD cutD lenD minmaxD nilCheckD buildD fillD cellsD isOne ones setAll mkAgg allU allocD boxD storeD St.add buildSliceD appendD rowsOf makeD setOb getK_setOb getK_del getK_cons stripL strip guardTmp entry chunks zcells valD argsV argsW argW argU1 argU0 argsU0 argsU1 calleeOf scalarD scalarU delAll effD St.effS applyW mkD rdIds lentIds callOf calleeOf freeOp D.ids Op.operands Call.operands isEffOp IntKind.bits allU2 allU2_append List.take_of_length_le List.range_succ
attribute [local irreducible] V G H HD HD2 RunK Eff CallP CallV EndOK Fun Ret FinOK LoopI LoopW EndW
theorem run_fun (code : List Ins) (vs : List Var) (fuel : Int) : Fun Try.prog 8 [.u (inss code), .u (vars vs), .u (.int .i64 fuel)]
    (· = .tup [.u (.int .i64 (runM code vs fuel).1), .u (.int .i64 (runM code vs fuel).2.1), .u (.int .i64 (runM code vs fuel).2.2)]) := by
  (refine Fun.of_body Try.func8 rfl (by simp) fun Γ hn => ?_); simp only [entry, List.zipIdx_cons, List.zipIdx_nil, List.map_cons, List.map_nil, Nat.zero_add, Try.ntmps8]
  by_cases hf : fuel < 0 ∨ 100000 < fuel
  · have hr : runM code vs fuel = (0, 0, 1) := by unfold runM; rw [if_pos hf]
    rw [hr]
    rcases hf with hf | hf
    all_goals
      repeat' (first
    | (refine H_cons ?_; simp)
    | (refine H_nil ?_)
    | (refine HD_nil ?_)
    | (refine HD_cons ?_; simp)
    | (refine HD_guardU rfl (by simp) ?_; simp)
    | (refine HD_guard rfl (by simp) (fun hc => ?_) (fun hc => ?_) <;> (try simp at hc) <;> (try (exfalso; omega)) <;> (try simp))
    | (refine V_seq ?_)
    | (refine V_region1 fun k hk => ?_; simp)
    | (refine V_drawV rfl (by kernel_rfl) (by kernel_rfl) fun k hk => ?_; simp)
    | (refine V_drawE rfl (by kernel_rfl) (by kernel_rfl) (by simp [hn]) fun C k hC hk => ?_; simp)
    | (refine HD2_nil (hC _ (by kernel_rfl)) (hk _ ?_); clear hC hk C k)
    | (refine HD2_val rfl ?_; simp)
    | (refine HD2_chg rfl ?_; simp)
    | (refine HD2_guardU rfl (by simp) ?_; simp)
    | (refine HD2_guard rfl (by simp) (fun hc => ?_) (fun hc => ?_) <;> (try simp at hc) <;> (try (exfalso; omega)) <;> (try simp))
    | (refine V_block ?_)
        | (refine V_ret ?_)
    | (refine V_exit ?_)
    | (refine V_skip ?_)
    | (refine R_seq ?_)
    | (refine R_seq_ret ?_)
    | (refine R_seq_exit ?_)
    | (refine R_blk_ret ?_)
    | (refine R_blk ?_)
    | (refine R_blk_exit ?_)
    | (refine R_blk_other (by decide) ?_)
    | (refine R_loop_ret ?_)
    | (refine R_loop_exit ?_)
    | (refine R_loop ?_)
    | (refine R_done ?_)
    | (refine hk _ ?_; clear hk k)
    | (refine ⟨by omega, ?_⟩)
    | (refine ⟨?_, by omega⟩)
    | (refine ⟨fun hc => ?_, fun hc => ?_⟩ <;> (try (exfalso; omega)))
    | (refine V_cond rfl (fun hc => ?_) (fun hc => ?_) <;> (try simp at hc) <;> (try (exfalso; omega)))
    | (intro hc <;> (try (exfalso; omega))))
    all_goals
      (refine EndOK.val (.inr rfl) ?_; simp [resD, oneOrTup, pureD, Try.results8])
  · have hr : runM code vs fuel = runK code vs fuel fuel.toNat 0 run0 := by unfold runM; rw [if_neg hf]
    rw [hr]
    have hf0 : 0 ≤ fuel ∧ fuel ≤ 100000 := by omega
    repeat' (first
    | (refine H_cons ?_; simp)
    | (refine H_nil ?_)
    | (refine HD_nil ?_)
    | (refine HD_cons ?_; simp)
    | (refine HD_guardU rfl (by simp) ?_; simp)
    | (refine HD_guard rfl (by simp) (fun hc => ?_) (fun hc => ?_) <;> (try simp at hc) <;> (try (exfalso; omega)) <;> (try simp))
    | (refine V_seq ?_)
    | (refine V_region1 fun k hk => ?_; simp)
    | (refine V_drawV rfl (by kernel_rfl) (by kernel_rfl) fun k hk => ?_; simp)
    | (refine V_drawE rfl (by kernel_rfl) (by kernel_rfl) (by simp [hn]) fun C k hC hk => ?_; simp)
    | (refine HD2_nil (hC _ (by kernel_rfl)) (hk _ ?_); clear hC hk C k)
    | (refine HD2_val rfl ?_; simp)
    | (refine HD2_chg rfl ?_; simp)
    | (refine HD2_guardU rfl (by simp) ?_; simp)
    | (refine HD2_guard rfl (by simp) (fun hc => ?_) (fun hc => ?_) <;> (try simp at hc) <;> (try (exfalso; omega)) <;> (try simp))
    | (refine V_block ?_)
        | (refine V_ret ?_)
    | (refine V_exit ?_)
    | (refine V_skip ?_)
    | (refine R_seq ?_)
    | (refine R_seq_ret ?_)
    | (refine R_seq_exit ?_)
    | (refine R_blk_ret ?_)
    | (refine R_blk ?_)
    | (refine R_blk_exit ?_)
    | (refine R_blk_other (by decide) ?_)
    | (refine R_loop_ret ?_)
    | (refine R_loop_exit ?_)
    | (refine R_loop ?_)
    | (refine R_done ?_)
    | (refine hk _ ?_; clear hk k)
    | (refine ⟨by omega, ?_⟩)
    | (refine ⟨?_, by omega⟩)
    | (refine ⟨fun hc => ?_, fun hc => ?_⟩ <;> (try (exfalso; omega)))
    | (refine V_cond rfl (fun hc => ?_) (fun hc => ?_) <;> (try simp at hc) <;> (try (exfalso; omega)))
    | (intro hc <;> (try (exfalso; omega))))
    refine V_loop (α := RunAt code vs fuel)
      (fun x => { n := 34, env := [(0, .u (inss code)), (1, .u (vars vs)), (2, .u (.int .i64 fuel)), (9, .ptr 0 0), (17, .u (.int .i64 fuel)), (18, .u (.int .i64 x.n))], obs := x.obs, next := 2 })
      (fun x => fuel.toNat - x.n) ⟨0, run0, none, by omega, by simp [run0], by simp, rfl⟩ (fun i => i) ?_ ?_
    · (refine St.le_of rfl ?_ ?_ ?_ ?_ <;> simp [leEnv, leObs, leL, D.le, D.ren, D.under, hn, RunAt.obs, mbox, run0, Ob.under_box, Ob.le_id])
    intro x
    repeat' (first
    | (refine H_cons ?_; simp)
    | (refine H_nil ?_)
    | (refine HD_nil ?_)
    | (refine HD_cons ?_; simp)
    | (refine HD_guardU rfl (by simp) ?_; simp)
    | (refine HD_guard rfl (by simp) (fun hc => ?_) (fun hc => ?_) <;> (try simp at hc) <;> (try (exfalso; omega)) <;> (try simp))
    | (refine V_seq ?_)
    | (refine V_region1 fun k hk => ?_; simp)
    | (refine V_drawV rfl (by kernel_rfl) (by kernel_rfl) fun k hk => ?_; simp)
    | (refine V_drawE rfl (by kernel_rfl) (by kernel_rfl) (by simp [hn]) fun C k hC hk => ?_; simp)
    | (refine HD2_nil (hC _ (by kernel_rfl)) (hk _ ?_); clear hC hk C k)
    | (refine HD2_val rfl ?_; simp)
    | (refine HD2_chg rfl ?_; simp)
    | (refine HD2_guardU rfl (by simp) ?_; simp)
    | (refine HD2_guard rfl (by simp) (fun hc => ?_) (fun hc => ?_) <;> (try simp at hc) <;> (try (exfalso; omega)) <;> (try simp))
    | (refine V_block ?_)
        | (refine V_ret ?_)
    | (refine V_exit ?_)
    | (refine V_skip ?_)
    | (refine R_seq ?_)
    | (refine R_seq_ret ?_)
    | (refine R_seq_exit ?_)
    | (refine R_blk_ret ?_)
    | (refine R_blk ?_)
    | (refine R_blk_exit ?_)
    | (refine R_blk_other (by decide) ?_)
    | (refine R_loop_ret ?_)
    | (refine R_loop_exit ?_)
    | (refine R_loop ?_)
    | (refine R_done ?_)
    | (refine hk _ ?_; clear hk k)
    | (refine ⟨by omega, ?_⟩)
    | (refine ⟨?_, by omega⟩)
    | (refine ⟨fun hc => ?_, fun hc => ?_⟩ <;> (try (exfalso; omega)))
    | (refine V_cond rfl (fun hc => ?_) (fun hc => ?_) <;> (try simp at hc) <;> (try (exfalso; omega)))
    | (intro hc <;> (try (exfalso; omega))))
    · have hlt : (x.n : Int) < fuel := by assumption
      have hkk : fuel.toNat - x.n = (fuel.toNat - (x.n + 1)) + 1 := by omega
      have hrun := x.hrun
      rw [hkk, runK] at hrun
      have hl := stepM_len code vs x.m
      have hxl := x.hlen
      refine CallP.ret_ (step_ret code vs x.m x.obs 2 (by omega) x.mob (by omega)) (by rfl) (by simp) (by rfl) (by simp) ?_
      rintro d o n' hn' hg
      simp at hn'
      refine H_nil ?_
      refine hk _ ?_
      clear hk k
      simp
      generalize stepM code vs x.m = m' at hg hrun hl
      obtain ⟨pc, st, en, va, er⟩ := m'
      simp only at hrun hl
      rcases hg with ⟨h1, h0⟩ | ⟨i, r, h1, h2, h3, h0, h4⟩
      · simp only at h1 h0
        subst h1
        cases en with
        | true =>
          rw [if_pos rfl] at hrun
          repeat' (first
    | (refine H_cons ?_; simp [h0, mbox])
    | (refine H_nil ?_)
    | (refine HD_nil ?_)
    | (refine HD_cons ?_; simp [h0, mbox])
    | (refine HD_guardU rfl (by simp [h0, mbox]) ?_; simp [h0, mbox])
    | (refine HD_guard rfl (by simp [h0, mbox]) (fun hc => ?_) (fun hc => ?_) <;> (try simp [h0, mbox] at hc) <;> (try (exfalso; omega)) <;> (try simp [h0, mbox]))
    | (refine V_seq ?_)
    | (refine V_region1 fun k hk => ?_; simp [h0, mbox])
    | (refine V_drawV rfl (by kernel_rfl) (by kernel_rfl) fun k hk => ?_; simp [h0, mbox])
    | (refine V_drawE rfl (by kernel_rfl) (by kernel_rfl) (by simp [hn]) fun C k hC hk => ?_; simp [h0, mbox])
    | (refine HD2_nil (hC _ (by kernel_rfl)) (hk _ ?_); clear hC hk C k)
    | (refine HD2_val rfl ?_; simp [h0, mbox])
    | (refine HD2_chg rfl ?_; simp [h0, mbox])
    | (refine HD2_guardU rfl (by simp [h0, mbox]) ?_; simp [h0, mbox])
    | (refine HD2_guard rfl (by simp [h0, mbox]) (fun hc => ?_) (fun hc => ?_) <;> (try simp [h0, mbox] at hc) <;> (try (exfalso; omega)) <;> (try simp [h0, mbox]))
    | (refine V_block ?_)
        | (refine V_ret ?_)
    | (refine V_exit ?_)
    | (refine V_skip ?_)
    | (refine R_seq ?_)
    | (refine R_seq_ret ?_)
    | (refine R_seq_exit ?_)
    | (refine R_blk_ret ?_)
    | (refine R_blk ?_)
    | (refine R_blk_exit ?_)
    | (refine R_blk_other (by decide) ?_)
    | (refine R_loop_ret ?_)
    | (refine R_loop_exit ?_)
    | (refine R_loop ?_)
    | (refine R_done ?_)
    | (refine hk _ ?_; clear hk k)
    | (refine ⟨by omega, ?_⟩)
    | (refine ⟨?_, by omega⟩)
    | (refine ⟨fun hc => ?_, fun hc => ?_⟩ <;> (try (exfalso; omega)))
    | (refine V_cond rfl (fun hc => ?_) (fun hc => ?_) <;> (try simp [h0, mbox] at hc) <;> (try (exfalso; omega)))
    | (intro hc <;> (try (exfalso; omega))))
          (refine EndOK.val (.inr rfl) ?_; simp [resD, oneOrTup, pureD, Try.results8])
          rw [← hrun]
          simp
        | false =>
          rw [if_neg (by simp)] at hrun
          repeat' (first
    | (refine H_cons ?_; simp [h0, mbox])
    | (refine H_nil ?_)
    | (refine HD_nil ?_)
    | (refine HD_cons ?_; simp [h0, mbox])
    | (refine HD_guardU rfl (by simp [h0, mbox]) ?_; simp [h0, mbox])
    | (refine HD_guard rfl (by simp [h0, mbox]) (fun hc => ?_) (fun hc => ?_) <;> (try simp [h0, mbox] at hc) <;> (try (exfalso; omega)) <;> (try simp [h0, mbox]))
    | (refine V_seq ?_)
    | (refine V_region1 fun k hk => ?_; simp [h0, mbox])
    | (refine V_drawV rfl (by kernel_rfl) (by kernel_rfl) fun k hk => ?_; simp [h0, mbox])
    | (refine V_drawE rfl (by kernel_rfl) (by kernel_rfl) (by simp [hn]) fun C k hC hk => ?_; simp [h0, mbox])
    | (refine HD2_nil (hC _ (by kernel_rfl)) (hk _ ?_); clear hC hk C k)
    | (refine HD2_val rfl ?_; simp [h0, mbox])
    | (refine HD2_chg rfl ?_; simp [h0, mbox])
    | (refine HD2_guardU rfl (by simp [h0, mbox]) ?_; simp [h0, mbox])
    | (refine HD2_guard rfl (by simp [h0, mbox]) (fun hc => ?_) (fun hc => ?_) <;> (try simp [h0, mbox] at hc) <;> (try (exfalso; omega)) <;> (try simp [h0, mbox]))
    | (refine V_block ?_)
        | (refine V_ret ?_)
    | (refine V_exit ?_)
    | (refine V_skip ?_)
    | (refine R_seq ?_)
    | (refine R_seq_ret ?_)
    | (refine R_seq_exit ?_)
    | (refine R_blk_ret ?_)
    | (refine R_blk ?_)
    | (refine R_blk_exit ?_)
    | (refine R_blk_other (by decide) ?_)
    | (refine R_loop_ret ?_)
    | (refine R_loop_exit ?_)
    | (refine R_loop ?_)
    | (refine R_done ?_)
    | (refine hk _ ?_; clear hk k)
    | (refine ⟨by omega, ?_⟩)
    | (refine ⟨?_, by omega⟩)
    | (refine ⟨fun hc => ?_, fun hc => ?_⟩ <;> (try (exfalso; omega)))
    | (refine V_cond rfl (fun hc => ?_) (fun hc => ?_) <;> (try simp [h0, mbox] at hc) <;> (try (exfalso; omega)))
    | (intro hc <;> (try (exfalso; omega))))
          refine LoopI.next ?y (fun i => i) ?h1 ?h2
          case y => exact ⟨x.n + 1, ⟨pc, [], false, va, er⟩, none, by omega, by simp, by simpa using hrun, rfl⟩
          case h1 => simp; omega
          case h2 =>
            (refine St.le_of rfl ?_ ?_ ?_ ?_ <;> simp [leEnv, leObs, leL, D.le, D.ren, D.under, hn, RunAt.obs, mbox, h0, Ob.under_box, Ob.le_id])
      · simp only at h3 h0
        cases en with
        | true =>
          rw [if_pos rfl] at hrun
          repeat' (first
    | (refine H_cons ?_; simp [h0, mbox])
    | (refine H_nil ?_)
    | (refine HD_nil ?_)
    | (refine HD_cons ?_; simp [h0, mbox])
    | (refine HD_guardU rfl (by simp [h0, mbox]) ?_; simp [h0, mbox])
    | (refine HD_guard rfl (by simp [h0, mbox]) (fun hc => ?_) (fun hc => ?_) <;> (try simp [h0, mbox] at hc) <;> (try (exfalso; omega)) <;> (try simp [h0, mbox]))
    | (refine V_seq ?_)
    | (refine V_region1 fun k hk => ?_; simp [h0, mbox])
    | (refine V_drawV rfl (by kernel_rfl) (by kernel_rfl) fun k hk => ?_; simp [h0, mbox])
    | (refine V_drawE rfl (by kernel_rfl) (by kernel_rfl) (by simp [hn]) fun C k hC hk => ?_; simp [h0, mbox])
    | (refine HD2_nil (hC _ (by kernel_rfl)) (hk _ ?_); clear hC hk C k)
    | (refine HD2_val rfl ?_; simp [h0, mbox])
    | (refine HD2_chg rfl ?_; simp [h0, mbox])
    | (refine HD2_guardU rfl (by simp [h0, mbox]) ?_; simp [h0, mbox])
    | (refine HD2_guard rfl (by simp [h0, mbox]) (fun hc => ?_) (fun hc => ?_) <;> (try simp [h0, mbox] at hc) <;> (try (exfalso; omega)) <;> (try simp [h0, mbox]))
    | (refine V_block ?_)
        | (refine V_ret ?_)
    | (refine V_exit ?_)
    | (refine V_skip ?_)
    | (refine R_seq ?_)
    | (refine R_seq_ret ?_)
    | (refine R_seq_exit ?_)
    | (refine R_blk_ret ?_)
    | (refine R_blk ?_)
    | (refine R_blk_exit ?_)
    | (refine R_blk_other (by decide) ?_)
    | (refine R_loop_ret ?_)
    | (refine R_loop_exit ?_)
    | (refine R_loop ?_)
    | (refine R_done ?_)
    | (refine hk _ ?_; clear hk k)
    | (refine ⟨by omega, ?_⟩)
    | (refine ⟨?_, by omega⟩)
    | (refine ⟨fun hc => ?_, fun hc => ?_⟩ <;> (try (exfalso; omega)))
    | (refine V_cond rfl (fun hc => ?_) (fun hc => ?_) <;> (try simp [h0, mbox] at hc) <;> (try (exfalso; omega)))
    | (intro hc <;> (try (exfalso; omega))))
          (refine EndOK.val (.inr rfl) ?_; simp [resD, oneOrTup, pureD, Try.results8])
          rw [← hrun]
          simp
        | false =>
          rw [if_neg (by simp)] at hrun
          repeat' (first
    | (refine H_cons ?_; simp [h0, mbox])
    | (refine H_nil ?_)
    | (refine HD_nil ?_)
    | (refine HD_cons ?_; simp [h0, mbox])
    | (refine HD_guardU rfl (by simp [h0, mbox]) ?_; simp [h0, mbox])
    | (refine HD_guard rfl (by simp [h0, mbox]) (fun hc => ?_) (fun hc => ?_) <;> (try simp [h0, mbox] at hc) <;> (try (exfalso; omega)) <;> (try simp [h0, mbox]))
    | (refine V_seq ?_)
    | (refine V_region1 fun k hk => ?_; simp [h0, mbox])
    | (refine V_drawV rfl (by kernel_rfl) (by kernel_rfl) fun k hk => ?_; simp [h0, mbox])
    | (refine V_drawE rfl (by kernel_rfl) (by kernel_rfl) (by simp [hn]) fun C k hC hk => ?_; simp [h0, mbox])
    | (refine HD2_nil (hC _ (by kernel_rfl)) (hk _ ?_); clear hC hk C k)
    | (refine HD2_val rfl ?_; simp [h0, mbox])
    | (refine HD2_chg rfl ?_; simp [h0, mbox])
    | (refine HD2_guardU rfl (by simp [h0, mbox]) ?_; simp [h0, mbox])
    | (refine HD2_guard rfl (by simp [h0, mbox]) (fun hc => ?_) (fun hc => ?_) <;> (try simp [h0, mbox] at hc) <;> (try (exfalso; omega)) <;> (try simp [h0, mbox]))
    | (refine V_block ?_)
        | (refine V_ret ?_)
    | (refine V_exit ?_)
    | (refine V_skip ?_)
    | (refine R_seq ?_)
    | (refine R_seq_ret ?_)
    | (refine R_seq_exit ?_)
    | (refine R_blk_ret ?_)
    | (refine R_blk ?_)
    | (refine R_blk_exit ?_)
    | (refine R_blk_other (by decide) ?_)
    | (refine R_loop_ret ?_)
    | (refine R_loop_exit ?_)
    | (refine R_loop ?_)
    | (refine R_done ?_)
    | (refine hk _ ?_; clear hk k)
    | (refine ⟨by omega, ?_⟩)
    | (refine ⟨?_, by omega⟩)
    | (refine ⟨fun hc => ?_, fun hc => ?_⟩ <;> (try (exfalso; omega)))
    | (refine V_cond rfl (fun hc => ?_) (fun hc => ?_) <;> (try simp [h0, mbox] at hc) <;> (try (exfalso; omega)))
    | (intro hc <;> (try (exfalso; omega))))
          refine LoopI.next ?y (fun j => if j = 1 then i else j) ?h1 ?h2
          case y => exact ⟨x.n + 1, ⟨pc, st, false, va, er⟩, some r, by omega, by simp; omega, by simpa using hrun, h3⟩
          case h1 => simp; omega
          case h2 =>
            (refine St.le_of rfl ?_ ?_ ?_ ?_ <;> simp [leEnv, leObs, leL, D.le, D.ren, D.under, hn, RunAt.obs, mbox, h0, h4])
            · refine ⟨⟨Ob.le_box ?_, ?_⟩, Ob.le_vec_refl (stk_u r), Ob.under_vec (stk_u r)⟩
              · simp [leL, D.le, D.ren]
              · simp [Ob.under_box, D.under]
            · omega
    · have hxn := x.hn
      have hkk : fuel.toNat - x.n = 0 := by omega
      have hrun := x.hrun
      rw [hkk, runK] at hrun
      (refine EndOK.val (.inr rfl) ?_; simp [resD, oneOrTup, pureD, Try.results8])
      rw [← hrun]
      simp
end Go.Proofs.Ytblmompdcammeaa
