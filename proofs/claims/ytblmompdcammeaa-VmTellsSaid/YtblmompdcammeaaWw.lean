/- Fuel: what more of it does; the law on fuel. -/
import Derived.Test.YtblmompdcammeaaWu
set_option linter.all false
namespace Go.Proofs.Ytblmompdcammeaa
open Go Go.VL
theorem fin_out (m : Mach) (v e : Int) (he : e ≠ 16) : (m.fin v e).stack = [] ∧ (m.fin v e).er ≠ 16 := ⟨rfl, he⟩
theorem push_out' (m : Mach) (x : Int) (h : m.en = false) : (m.push x).en = true → (m.push x).stack = [] ∧ (m.push x).er ≠ 16 := by
  unfold Mach.push
  split
  · intro h'; simp [h] at h'
  · intro _; exact fin_out _ _ _ (by omega)
theorem stepM_out (code : List Ins) (vs : List Var) (m : Mach) (hm : m.en = false) : (stepM code vs m).en = true → (stepM code vs m).stack = [] ∧ (stepM code vs m).er ≠ 16 := by
  have hd : ∀ k, (m.drop k).en = false := fun k => hm
  unfold stepM
  split
  · intro _; exact fin_out _ _ _ (by omega)
  split
  · intro _; exact fin_out _ _ _ (by omega)
  split
  · intro _; exact fin_out _ _ _ (by omega)
  unfold stepI
  split
  · exact push_out' _ _ hm
  split
  · split
    · intro _; exact fin_out _ _ _ (by omega)
    · exact push_out' _ _ hm
  split
  · intro h; simp [hm] at h
  split
  · intro h; simp [hd 1] at h
  split
  · intro _; exact fin_out _ _ _ (by omega)
  split
  · exact push_out' _ _ (hd 1)
  split
  · intro _; exact fin_out _ _ _ (by omega)
  · exact push_out' _ _ (hd 2)
theorem runK_more {code : List Ins} {vs : List Var} {fuel fuel' : Int} {d : Nat} : ∀ (k : Nat) (n : Int) (m : Mach), (runK code vs fuel k n m).2.2 ≠ 16 → runK code vs fuel' (k + d) n m = runK code vs fuel k n m
  | 0, n, m, h => by simp [runK] at h
  | k + 1, n, m, h => by
    rw [show k + 1 + d = (k + d) + 1 by omega]
    simp only [runK] at h ⊢
    split
    · rfl
    · rename_i he
      rw [if_neg he] at h
      exact runK_more k _ _ h
theorem runK_lo {code : List Ins} {vs : List Var} {fuel : Int} : ∀ (k : Nat) (n : Int) (m : Mach), n + k ≤ fuel → n ≤ (runK code vs fuel k n m).2.1 ∧ (runK code vs fuel k n m).2.1 ≤ fuel
  | 0, n, m, h => by simp [runK]; omega
  | k + 1, n, m, h => by
    simp only [runK]
    split
    · simp; omega
    · have := runK_lo (code := code) (vs := vs) (fuel := fuel) k (n + 1) (stepM code vs m) (by omega)
      omega
theorem runK_16 {code : List Ins} {vs : List Var} {fuel : Int} : ∀ (k : Nat) (n : Int) (m : Mach), m.en = false → (runK code vs fuel k n m).2.2 = 16 → runK code vs fuel k n m = (0, fuel, 16)
  | 0, n, m, _, h => rfl
  | k + 1, n, m, hm, h => by
    simp only [runK] at h ⊢
    split
    · rename_i he
      rw [if_pos he] at h
      exact absurd h (stepM_out code vs m hm he).2
    · rename_i he
      rw [if_neg he] at h
      exact runK_16 k _ _ (by simpa using he) h
theorem runK_16_lo {code : List Ins} {vs : List Var} {fuel fuel' : Int} {d : Nat} : ∀ (k : Nat) (n : Int) (m : Mach), m.en = false → (runK code vs fuel k n m).2.2 = 16 → n + (k + d : Nat) ≤ fuel' → n + k ≤ (runK code vs fuel' (k + d) n m).2.1
  | 0, n, m, _, h, hf => by
    rw [Nat.zero_add] at hf ⊢
    have := (runK_lo (code := code) (vs := vs) (fuel := fuel') d n m hf).1
    simpa using this
  | k + 1, n, m, hm, h, hf => by
    rw [show k + 1 + d = (k + d) + 1 by omega] at hf ⊢
    simp only [runK] at h ⊢
    split
    · rename_i he
      rw [if_pos he] at h
      exact absurd h (stepM_out code vs m hm he).2
    · rename_i he
      rw [if_neg he] at h
      have := runK_16_lo (code := code) (vs := vs) (fuel := fuel) (fuel' := fuel') (d := d) k (n + 1) (stepM code vs m) (by simpa using he) h (by omega)
      omega
theorem fuel_law (code : List Ins) (vs : List Var) (fuel : Int) (d : Nat) (h0 : 0 ≤ fuel) (h1 : fuel + d ≤ 100000) :
    ((runM code vs fuel).2.2 ≠ 16 → runM code vs (fuel + d) = runM code vs fuel) ∧ ((runM code vs fuel).2.2 = 16 → runM code vs fuel = (0, fuel, 16) ∧ fuel ≤ (runM code vs (fuel + d)).2.1) := by
  have e1 : runM code vs fuel = runK code vs fuel fuel.toNat 0 run0 := by unfold runM; rw [if_neg (by omega)]
  have e2 : runM code vs (fuel + d) = runK code vs (fuel + d) (fuel.toNat + d) 0 run0 := by
    unfold runM; rw [if_neg (by omega), show (fuel + (d : Int)).toNat = fuel.toNat + d by omega]
  rw [e1, e2]
  refine ⟨fun h => runK_more _ _ _ h, fun h => ⟨runK_16 _ _ _ rfl h, ?_⟩⟩
  have := runK_16_lo (code := code) (vs := vs) (fuel := fuel) (fuel' := fuel + d) (d := d) fuel.toNat 0 run0 rfl h (by omega)
  omega
/-- Where so many single steps stand. -/
structure FuelAt (code : List Ins) (vs : List Var) (fuel : Int) where
  n : Nat
  m : Mach
  hn : (n : Int) ≤ fuel
  hlen : m.stack.length ≤ n
  hen : m.en = true → runM code vs fuel = (m.va, (n : Int), m.er) ∧ m.stack = [] ∧ m.er ≠ 16
  hrun : m.en = false → runK code vs fuel (fuel.toNat - n) n m = runM code vs fuel ∧ m.va = 0 ∧ m.er = 0
theorem push_zero (m : Mach) (x : Int) (h : m.va = 0 ∧ m.er = 0) : (m.push x).en = false → (m.push x).va = 0 ∧ (m.push x).er = 0 := by
  unfold Mach.push
  split
  · intro _; exact h
  · intro h'; simp [Mach.fin] at h'
theorem stepM_zero (code : List Ins) (vs : List Var) (m : Mach) (hm : m.va = 0 ∧ m.er = 0) : (stepM code vs m).en = false → (stepM code vs m).va = 0 ∧ (stepM code vs m).er = 0 := by
  have hd : ∀ k, (m.drop k).va = 0 ∧ (m.drop k).er = 0 := fun k => hm
  have hf : ∀ (m : Mach) v e, (m.fin v e).en = false → False := fun m v e h => by simp [Mach.fin] at h
  unfold stepM
  split
  · intro h; exact (hf _ _ _ h).elim
  split
  · intro h; exact (hf _ _ _ h).elim
  split
  · intro h; exact (hf _ _ _ h).elim
  unfold stepI
  split
  · exact push_zero _ _ hm
  split
  · split
    · intro h; exact (hf _ _ _ h).elim
    · exact push_zero _ _ hm
  split
  · intro _; exact hm
  split
  · intro _; exact hd 1
  split
  · intro h; exact (hf _ _ _ h).elim
  split
  · exact push_zero _ _ (hd 1)
  split
  · intro h; exact (hf _ _ _ h).elim
  · exact push_zero _ _ (hd 2)
def FuelAt.next {code vs fuel} (x : FuelAt code vs fuel) (he : x.m.en = false) (hlt : (x.n : Int) < fuel) : FuelAt code vs fuel where
  n := x.n + 1
  m := stepV code vs x.m
  hn := by omega
  hlen := by
    have h1 := x.hlen
    rw [show stepV code vs x.m = stepM code vs { x.m with va := 0, er := 0 } by unfold stepV; rw [if_neg (by simp [he])]]
    have h2 := stepM_len code vs { x.m with va := 0, er := 0 }
    have h3 : ({ x.m with va := 0, er := 0 } : Mach).stack = x.m.stack := rfl
    rw [h3] at h2
    omega
  hen := fun h => by
    obtain ⟨h1, h2, h3⟩ := x.hrun he
    have e : stepV code vs x.m = stepM code vs x.m := by
      unfold stepV
      rw [if_neg (by simp [he])]
      congr 1
      cases hx : x.m
      simp_all
    rw [e] at h ⊢
    have ho := stepM_out code vs x.m he h
    refine ⟨?_, ho⟩
    rw [show fuel.toNat - x.n = (fuel.toNat - (x.n + 1)) + 1 by omega, runK, if_pos h] at h1
    rw [← h1]
    simp
  hrun := fun h => by
    obtain ⟨h1, h2, h3⟩ := x.hrun he
    have e : stepV code vs x.m = stepM code vs x.m := by
      unfold stepV
      rw [if_neg (by simp [he])]
      congr 1
      cases hx : x.m
      simp_all
    rw [e] at h ⊢
    refine ⟨?_, stepM_zero code vs x.m ⟨h2, h3⟩ h⟩
    rw [show fuel.toNat - x.n = (fuel.toNat - (x.n + 1)) + 1 by omega, runK, if_neg (by simp [h])] at h1
    rw [← h1]
    simp
attribute [local simp] hcons hstep evPure opd uOf putOK St.put St.at getK binD binI binS binB nilD aggD eqUs cmpK shiftI arith unD convD pickD loadD cellsAt fieldAddrD fieldD indexAddrD indexD sliceD cutD lenD minmaxD nilCheckD buildD fillD cellsD isOne ones setAll mkAgg allU allocD boxD storeD St.add buildSliceD appendD rowsOf makeD setOb getK_setOb getK_del getK_cons stripL strip guardTmp entry chunks zcells valD argsV argsW argW argU1 argU0 argsU0 argsU1 calleeOf scalarD scalarU delAll effD St.effS applyW mkD rdIds lentIds callOf calleeOf freeOp D.ids Op.operands Call.operands isEffOp IntKind.bits allU2 allU2_append List.take_of_length_le List.range_succ
attribute [local irreducible] V G H HD HD2 RunK Eff CallP CallV EndOK Fun Ret FinOK LoopI LoopW EndW
def mcell (m : Mach) : Ob := .box [.u (.int .i64 m.pc), .u (ints m.stack), .u (.bool m.en), .u (.int .i64 m.va), .u (.int .i64 m.er)]
set_option maxHeartbeats 8000000 in
theorem fuel_fun (l : List Ins) (vs : List Var) (fuel more : Int) (hmo : 0 ≤ more ∧ more ≤ 255) : Fun Try.prog 5 [.u (inss l), .u (vars vs), .u (.int .i64 fuel), .u (.int .u8 more)] (· = .u (.bool true)) := by
  have hf := few_fun l vs 60
  have hr1 := run_fun l vs fuel
  have hr2 := run_fun l vs (fuel + more)
  have hst := fun (m : Mach) (h : m.stack.length < 100000) => step_fun l vs m h
  (refine Fun.of_body Try.func5 rfl (by simp) fun Γ hn => ?_); simp only [entry, List.zipIdx_cons, List.zipIdx_nil, List.map_cons, List.map_nil, Nat.zero_add, Try.ntmps5]
  simp only [inss, vars, magg, ints] at hf hr1 hr2 hst ⊢
  by_cases hfew : few l vs 60 = true ∧ 0 ≤ fuel ∧ fuel ≤ 2000
  case neg =>
    cases hfw : few l vs 60 with
    | false =>
      rw [hfw] at hf
      repeat' (first
    | (first | (refine CallV.fun_ (small_fun) (by rfl) (by first | assumption | (simp; done) | fail) (by first | (simp; done) | (simp; rfl)) (by first | (simp; done) | fail) ?_ <;> (try simp)) | (refine CallP.fun_ (small_fun) (by rfl) (by first | assumption | (simp; done) | fail) (by first | (simp; done) | (simp; rfl)) (by first | (simp; done) | fail) (fun d hd => ?_); subst hd; (try simp)))
    | (first | (refine CallV.fun_ (hf) (by rfl) (by first | assumption | (simp; done) | fail) (by first | (simp; done) | (simp; rfl)) (by first | (simp; done) | fail) ?_ <;> (try simp)) | (refine CallP.fun_ (hf) (by rfl) (by first | assumption | (simp; done) | fail) (by first | (simp; done) | (simp; rfl)) (by first | (simp; done) | fail) (fun d hd => ?_); subst hd; (try simp)))
    | (refine H_cons ?_; simp)
    | (refine H_nil ?_)
    | (refine HD_nil ?_)
    | (refine HD_cons ?_; simp)
    | (refine HD_guardU rfl (by simp) ?_; simp)
    | (refine HD_guard rfl (by simp) (fun hc => ?_) (fun hc => ?_) <;> (try simp at hc) <;> (try (exfalso; omega)) <;> (try simp))
    | (refine V_seq ?_)
    | (refine V_region1 fun k hk => ?_; simp)
    | (refine V_drawV rfl (by kernel_rfl) (by kernel_rfl) fun k hk => ?_; simp)
    | (refine V_drawE rfl (by kernel_rfl) (by kernel_rfl) (by simp [hn]) fun C k hC hk => ?_; simp)
    | (refine HD2_nil (hC _ (by kernel_rfl)) (hk _ ?_); clear hC hk C k)
    | (refine HD2_val rfl ?_; simp)
    | (refine HD2_chg rfl ?_; simp)
    | (refine HD2_guardU rfl (by simp) ?_; simp)
    | (refine HD2_guard rfl (by simp) (fun hc => ?_) (fun hc => ?_) <;> (try simp at hc) <;> (try (exfalso; omega)) <;> (try simp))
    | (refine V_block ?_)
        | (refine V_ret ?_)
    | (refine V_exit ?_)
    | (refine V_skip ?_)
    | (refine R_seq ?_)
    | (refine R_seq_ret ?_)
    | (refine R_seq_exit ?_)
    | (refine R_blk_ret ?_)
    | (refine R_blk ?_)
    | (refine R_blk_exit ?_)
    | (refine R_blk_other (by decide) ?_)
    | (refine R_loop_ret ?_)
    | (refine R_loop_exit ?_)
    | (refine R_loop ?_)
    | (refine R_done ?_)
    | (refine hk _ ?_; clear hk k)
    | (refine ⟨by omega, ?_⟩)
    | (refine ⟨?_, by omega⟩)
    | (refine ⟨fun hc => ?_, fun hc => ?_⟩ <;> (try (exfalso; omega)))
    | (refine V_cond rfl (fun hc => ?_) (fun hc => ?_) <;> (try simp at hc) <;> (try (exfalso; omega)))
    | (intro hc <;> (try (exfalso; omega))))
      (refine EndOK.val (.inr rfl) ?_; simp [resD, oneOrTup, pureD, Try.results5])
    | true =>
      rw [hfw] at hf hfew
      simp only [true_and] at hfew
      repeat' (first
    | (first | (refine CallV.fun_ (small_fun) (by rfl) (by first | assumption | (simp; done) | fail) (by first | (simp; done) | (simp; rfl)) (by first | (simp; done) | fail) ?_ <;> (try simp)) | (refine CallP.fun_ (small_fun) (by rfl) (by first | assumption | (simp; done) | fail) (by first | (simp; done) | (simp; rfl)) (by first | (simp; done) | fail) (fun d hd => ?_); subst hd; (try simp)))
    | (first | (refine CallV.fun_ (hf) (by rfl) (by first | assumption | (simp; done) | fail) (by first | (simp; done) | (simp; rfl)) (by first | (simp; done) | fail) ?_ <;> (try simp)) | (refine CallP.fun_ (hf) (by rfl) (by first | assumption | (simp; done) | fail) (by first | (simp; done) | (simp; rfl)) (by first | (simp; done) | fail) (fun d hd => ?_); subst hd; (try simp)))
    | (refine H_cons ?_; simp)
    | (refine H_nil ?_)
    | (refine HD_nil ?_)
    | (refine HD_cons ?_; simp)
    | (refine HD_guardU rfl (by simp) ?_; simp)
    | (refine HD_guard rfl (by simp) (fun hc => ?_) (fun hc => ?_) <;> (try simp at hc) <;> (try (exfalso; omega)) <;> (try simp))
    | (refine V_seq ?_)
    | (refine V_region1 fun k hk => ?_; simp)
    | (refine V_drawV rfl (by kernel_rfl) (by kernel_rfl) fun k hk => ?_; simp)
    | (refine V_drawE rfl (by kernel_rfl) (by kernel_rfl) (by simp [hn]) fun C k hC hk => ?_; simp)
    | (refine HD2_nil (hC _ (by kernel_rfl)) (hk _ ?_); clear hC hk C k)
    | (refine HD2_val rfl ?_; simp)
    | (refine HD2_chg rfl ?_; simp)
    | (refine HD2_guardU rfl (by simp) ?_; simp)
    | (refine HD2_guard rfl (by simp) (fun hc => ?_) (fun hc => ?_) <;> (try simp at hc) <;> (try (exfalso; omega)) <;> (try simp))
    | (refine V_block ?_)
        | (refine V_ret ?_)
    | (refine V_exit ?_)
    | (refine V_skip ?_)
    | (refine R_seq ?_)
    | (refine R_seq_ret ?_)
    | (refine R_seq_exit ?_)
    | (refine R_blk_ret ?_)
    | (refine R_blk ?_)
    | (refine R_blk_exit ?_)
    | (refine R_blk_other (by decide) ?_)
    | (refine R_loop_ret ?_)
    | (refine R_loop_exit ?_)
    | (refine R_loop ?_)
    | (refine R_done ?_)
    | (refine hk _ ?_; clear hk k)
    | (refine ⟨by omega, ?_⟩)
    | (refine ⟨?_, by omega⟩)
    | (refine ⟨fun hc => ?_, fun hc => ?_⟩ <;> (try (exfalso; omega)))
    | (refine V_cond rfl (fun hc => ?_) (fun hc => ?_) <;> (try simp at hc) <;> (try (exfalso; omega)))
    | (intro hc <;> (try (exfalso; omega))))
      all_goals
        try (refine EndOK.val (.inr rfl) ?_; simp [resD, oneOrTup, pureD, Try.results5])
      all_goals
        exfalso
        omega
  obtain ⟨hf0, hf1, hf2⟩ := hfew
  rw [hf0] at hf
  have hlaw := fuel_law l vs fuel more.toNat hf1 (by omega)
  rw [show ((more.toNat : Nat) : Int) = more by omega] at hlaw
  obtain ⟨hl1, hl2⟩ := hlaw
  repeat' (first
    | (first | (refine CallV.fun_ (small_fun) (by rfl) (by first | assumption | (simp; done) | fail) (by first | (simp; done) | (simp; rfl)) (by first | (simp; done) | fail) ?_ <;> (try simp)) | (refine CallP.fun_ (small_fun) (by rfl) (by first | assumption | (simp; done) | fail) (by first | (simp; done) | (simp; rfl)) (by first | (simp; done) | fail) (fun d hd => ?_); subst hd; (try simp)))
    | (first | (refine CallV.fun_ (hf) (by rfl) (by first | assumption | (simp; done) | fail) (by first | (simp; done) | (simp; rfl)) (by first | (simp; done) | fail) ?_ <;> (try simp)) | (refine CallP.fun_ (hf) (by rfl) (by first | assumption | (simp; done) | fail) (by first | (simp; done) | (simp; rfl)) (by first | (simp; done) | fail) (fun d hd => ?_); subst hd; (try simp)))
    | (first | (refine CallV.fun_ (hr1) (by rfl) (by first | assumption | (simp; done) | fail) (by first | (simp; done) | (simp; rfl)) (by first | (simp; done) | fail) ?_ <;> (try simp)) | (refine CallP.fun_ (hr1) (by rfl) (by first | assumption | (simp; done) | fail) (by first | (simp; done) | (simp; rfl)) (by first | (simp; done) | fail) (fun d hd => ?_); subst hd; (try simp)))
    | (first | (refine CallV.fun_ (hr2) (by rfl) (by first | assumption | (simp; done) | fail) (by first | (simp; done) | (simp; rfl)) (by first | (simp; done) | fail) ?_ <;> (try simp)) | (refine CallP.fun_ (hr2) (by rfl) (by first | assumption | (simp; done) | fail) (by first | (simp; done) | (simp; rfl)) (by first | (simp; done) | fail) (fun d hd => ?_); subst hd; (try simp)))
    | (refine H_cons ?_; simp)
    | (refine H_nil ?_)
    | (refine HD_nil ?_)
    | (refine HD_cons ?_; simp)
    | (refine HD_guardU rfl (by simp) ?_; simp)
    | (refine HD_guard rfl (by simp) (fun hc => ?_) (fun hc => ?_) <;> (try simp at hc) <;> (try (exfalso; omega)) <;> (try simp))
    | (refine V_seq ?_)
    | (refine V_region1 fun k hk => ?_; simp)
    | (refine V_drawV rfl (by kernel_rfl) (by kernel_rfl) fun k hk => ?_; simp)
    | (refine V_drawE rfl (by kernel_rfl) (by kernel_rfl) (by simp [hn]) fun C k hC hk => ?_; simp)
    | (refine HD2_nil (hC _ (by kernel_rfl)) (hk _ ?_); clear hC hk C k)
    | (refine HD2_val rfl ?_; simp)
    | (refine HD2_chg rfl ?_; simp)
    | (refine HD2_guardU rfl (by simp) ?_; simp)
    | (refine HD2_guard rfl (by simp) (fun hc => ?_) (fun hc => ?_) <;> (try simp at hc) <;> (try (exfalso; omega)) <;> (try simp))
    | (refine V_block ?_)
        | (refine V_ret ?_)
    | (refine V_exit ?_)
    | (refine V_skip ?_)
    | (refine R_seq ?_)
    | (refine R_seq_ret ?_)
    | (refine R_seq_exit ?_)
    | (refine R_blk_ret ?_)
    | (refine R_blk ?_)
    | (refine R_blk_exit ?_)
    | (refine R_blk_other (by decide) ?_)
    | (refine R_loop_ret ?_)
    | (refine R_loop_exit ?_)
    | (refine R_loop ?_)
    | (refine R_done ?_)
    | (refine hk _ ?_; clear hk k)
    | (refine ⟨by omega, ?_⟩)
    | (refine ⟨?_, by omega⟩)
    | (refine ⟨fun hc => ?_, fun hc => ?_⟩ <;> (try (exfalso; omega)))
    | (refine V_cond rfl (fun hc => ?_) (fun hc => ?_) <;> (try simp at hc) <;> (try (exfalso; omega)))
    | (intro hc <;> (try (exfalso; omega))))
  refine V_loopO (α := FuelAt l vs fuel) [0, 1, 2, 9, 10, 11, 12, 13, 14, 15, 16] (fun x => [(17, .u (.int .i64 x.n))]) (fun x => [(0, mcell x.m)]) 1 (fun x => fuel.toNat - x.n)
    ⟨0, run0, by omega, by simp [run0], by simp [run0], fun _ => ⟨by simp [runM, show ¬ (fuel < 0 ∨ 100000 < fuel) by omega], rfl, rfl⟩⟩ ?_ ?_
  · refine (Wk.norm _).trans (Wk.env rfl ?_ rfl ?_)
    · simp [St.norm, normOb, normD, normU, norm1, mcell, run0, ints, St.lp]
    · simp [wkE, St.lp, keepE, getK_cons, getK, norm_env, normD, normU]
  intro x
  simp [St.lp, St.only, keepE, getK_cons, getK]
  simp only [mcell, ints]
  have hs1 := hst x.m (by have := x.hlen; have := x.hn; omega)
  cases hen : x.m.en with
  | false =>
    rw [hen] at hs1
    have hstk : x.m.stack.length ≤ fuel.toNat := by have := x.hlen; have := x.hn; omega
    by_cases hlt : (x.n : Int) < fuel
    · repeat' (first
    | (first | (refine CallV.fun_ (hs1) (by rfl) (by first | assumption | (simp; done) | fail) (by first | (simp [hen]; done) | (simp [hen]; rfl)) (by first | (simp; done) | fail) ?_ <;> (try simp [hen])) | (refine CallP.fun_ (hs1) (by rfl) (by first | assumption | (simp; done) | fail) (by first | (simp [hen]; done) | (simp [hen]; rfl)) (by first | (simp; done) | fail) (fun d hd => ?_); subst hd; (try simp [hen])))
    | (refine H_cons ?_; simp [hen])
    | (refine H_nil ?_)
    | (refine HD_nil ?_)
    | (refine HD_cons ?_; simp [hen])
    | (refine HD_guardU rfl (by simp [hen]) ?_; simp [hen])
    | (refine HD_guard rfl (by simp [hen]) (fun hc => ?_) (fun hc => ?_) <;> (try simp [hen] at hc) <;> (try (exfalso; omega)) <;> (try simp [hen]))
    | (refine V_seq ?_)
    | (refine V_region1 fun k hk => ?_; simp [hen])
    | (refine V_drawV rfl (by kernel_rfl) (by kernel_rfl) fun k hk => ?_; simp [hen])
    | (refine V_drawE rfl (by kernel_rfl) (by kernel_rfl) (by simp [hn]) fun C k hC hk => ?_; simp [hen])
    | (refine HD2_nil (hC _ (by kernel_rfl)) (hk _ ?_); clear hC hk C k)
    | (refine HD2_val rfl ?_; simp [hen])
    | (refine HD2_chg rfl ?_; simp [hen])
    | (refine HD2_guardU rfl (by simp [hen]) ?_; simp [hen])
    | (refine HD2_guard rfl (by simp [hen]) (fun hc => ?_) (fun hc => ?_) <;> (try simp [hen] at hc) <;> (try (exfalso; omega)) <;> (try simp [hen]))
    | (refine V_block ?_)
        | (refine V_ret ?_)
    | (refine V_exit ?_)
    | (refine V_skip ?_)
    | (refine R_seq ?_)
    | (refine R_seq_ret ?_)
    | (refine R_seq_exit ?_)
    | (refine R_blk_ret ?_)
    | (refine R_blk ?_)
    | (refine R_blk_exit ?_)
    | (refine R_blk_other (by decide) ?_)
    | (refine R_loop_ret ?_)
    | (refine R_loop_exit ?_)
    | (refine R_loop ?_)
    | (refine R_done ?_)
    | (refine hk _ ?_; clear hk k)
    | (refine ⟨by omega, ?_⟩)
    | (refine ⟨?_, by omega⟩)
    | (refine ⟨fun hc => ?_, fun hc => ?_⟩ <;> (try (exfalso; omega)))
    | (refine V_cond rfl (fun hc => ?_) (fun hc => ?_) <;> (try simp [hen] at hc) <;> (try (exfalso; omega)))
    | (intro hc <;> (try (exfalso; omega))))
      refine LoopW.next (x.next hen hlt) (by simp [FuelAt.next]; omega) ?_
      exact (Wk.env rfl (by simp [St.lp, FuelAt.next]) rfl (by simp [wkE, St.lp, keepE, getK_cons, getK, FuelAt.next]))
    · obtain ⟨hrun, hva, her⟩ := x.hrun hen
      have hxn := x.hn
      have hR : runM l vs fuel = (0, fuel, 16) := by
        rw [← hrun, show fuel.toNat - x.n = 0 by omega]
        rfl
      have hxe : (x.n : Int) = fuel := by omega
      obtain ⟨_, hl3⟩ := hl2 (by rw [hR])
      clear hl1 hl2 hrun
      repeat' (first
    | (refine H_cons ?_; simp [hen, hR, hxe, hl3])
    | (refine H_nil ?_)
    | (refine HD_nil ?_)
    | (refine HD_cons ?_; simp [hen, hR, hxe, hl3])
    | (refine HD_guardU rfl (by simp [hen, hR, hxe, hl3]) ?_; simp [hen, hR, hxe, hl3])
    | (refine HD_guard rfl (by simp [hen, hR, hxe, hl3]) (fun hc => ?_) (fun hc => ?_) <;> (try simp [hen, hR, hxe, hl3] at hc) <;> (try (exfalso; omega)) <;> (try simp [hen, hR, hxe, hl3]))
    | (refine V_seq ?_)
    | (refine V_region1 fun k hk => ?_; simp [hen, hR, hxe, hl3])
    | (refine V_drawV rfl (by kernel_rfl) (by kernel_rfl) fun k hk => ?_; simp [hen, hR, hxe, hl3])
    | (refine V_drawE rfl (by kernel_rfl) (by kernel_rfl) (by simp [hn]) fun C k hC hk => ?_; simp [hen, hR, hxe, hl3])
    | (refine HD2_nil (hC _ (by kernel_rfl)) (hk _ ?_); clear hC hk C k)
    | (refine HD2_val rfl ?_; simp [hen, hR, hxe, hl3])
    | (refine HD2_chg rfl ?_; simp [hen, hR, hxe, hl3])
    | (refine HD2_guardU rfl (by simp [hen, hR, hxe, hl3]) ?_; simp [hen, hR, hxe, hl3])
    | (refine HD2_guard rfl (by simp [hen, hR, hxe, hl3]) (fun hc => ?_) (fun hc => ?_) <;> (try simp [hen, hR, hxe, hl3] at hc) <;> (try (exfalso; omega)) <;> (try simp [hen, hR, hxe, hl3]))
    | (refine V_block ?_)
        | (refine V_ret ?_)
    | (refine V_exit ?_)
    | (refine V_skip ?_)
    | (refine R_seq ?_)
    | (refine R_seq_ret ?_)
    | (refine R_seq_exit ?_)
    | (refine R_blk_ret ?_)
    | (refine R_blk ?_)
    | (refine R_blk_exit ?_)
    | (refine R_blk_other (by decide) ?_)
    | (refine R_loop_ret ?_)
    | (refine R_loop_exit ?_)
    | (refine R_loop ?_)
    | (refine R_done ?_)
    | (refine hk _ ?_; clear hk k)
    | (refine ⟨by omega, ?_⟩)
    | (refine ⟨?_, by omega⟩)
    | (refine ⟨fun hc => ?_, fun hc => ?_⟩ <;> (try (exfalso; omega)))
    | (refine V_cond rfl (fun hc => ?_) (fun hc => ?_) <;> (try simp [hen, hR, hxe, hl3] at hc) <;> (try (exfalso; omega)))
    | (intro hc <;> (try (exfalso; omega))))
      all_goals
        (refine EndOK.val (.inr rfl) ?_; simp [resD, oneOrTup, pureD, Try.results5])
  | true =>
    obtain ⟨hR, hstk, her⟩ := x.hen hen
    have hR2 := hl1 (by rw [hR]; exact her)
    rw [hR] at hR2
    have hxn := x.hn
    clear hl1 hl2
    repeat' (first
    | (refine H_cons ?_; simp [hen, hR, hR2, her, hstk])
    | (refine H_nil ?_)
    | (refine HD_nil ?_)
    | (refine HD_cons ?_; simp [hen, hR, hR2, her, hstk])
    | (refine HD_guardU rfl (by simp [hen, hR, hR2, her, hstk]) ?_; simp [hen, hR, hR2, her, hstk])
    | (refine HD_guard rfl (by simp [hen, hR, hR2, her, hstk]) (fun hc => ?_) (fun hc => ?_) <;> (try simp [hen, hR, hR2, her, hstk] at hc) <;> (try (exfalso; omega)) <;> (try simp [hen, hR, hR2, her, hstk]))
    | (refine V_seq ?_)
    | (refine V_region1 fun k hk => ?_; simp [hen, hR, hR2, her, hstk])
    | (refine V_drawV rfl (by kernel_rfl) (by kernel_rfl) fun k hk => ?_; simp [hen, hR, hR2, her, hstk])
    | (refine V_drawE rfl (by kernel_rfl) (by kernel_rfl) (by simp [hn]) fun C k hC hk => ?_; simp [hen, hR, hR2, her, hstk])
    | (refine HD2_nil (hC _ (by kernel_rfl)) (hk _ ?_); clear hC hk C k)
    | (refine HD2_val rfl ?_; simp [hen, hR, hR2, her, hstk])
    | (refine HD2_chg rfl ?_; simp [hen, hR, hR2, her, hstk])
    | (refine HD2_guardU rfl (by simp [hen, hR, hR2, her, hstk]) ?_; simp [hen, hR, hR2, her, hstk])
    | (refine HD2_guard rfl (by simp [hen, hR, hR2, her, hstk]) (fun hc => ?_) (fun hc => ?_) <;> (try simp [hen, hR, hR2, her, hstk] at hc) <;> (try (exfalso; omega)) <;> (try simp [hen, hR, hR2, her, hstk]))
    | (refine V_block ?_)
        | (refine V_ret ?_)
    | (refine V_exit ?_)
    | (refine V_skip ?_)
    | (refine R_seq ?_)
    | (refine R_seq_ret ?_)
    | (refine R_seq_exit ?_)
    | (refine R_blk_ret ?_)
    | (refine R_blk ?_)
    | (refine R_blk_exit ?_)
    | (refine R_blk_other (by decide) ?_)
    | (refine R_loop_ret ?_)
    | (refine R_loop_exit ?_)
    | (refine R_loop ?_)
    | (refine R_done ?_)
    | (refine hk _ ?_; clear hk k)
    | (refine ⟨by omega, ?_⟩)
    | (refine ⟨?_, by omega⟩)
    | (refine ⟨fun hc => ?_, fun hc => ?_⟩ <;> (try (exfalso; omega)))
    | (refine V_cond rfl (fun hc => ?_) (fun hc => ?_) <;> (try simp [hen, hR, hR2, her, hstk] at hc) <;> (try (exfalso; omega)))
    | (intro hc <;> (try (exfalso; omega))))
    all_goals
      (refine EndOK.val (.inr rfl) ?_; simp [resD, oneOrTup, pureD, Try.results5])
end Go.Proofs.Ytblmompdcammeaa
