/- The machine's methods: what each does to the machine and its stack. -/
import Derived.Test.YtblmompdcammeaaWf
set_option linter.all false
namespace Go.Proofs.Ytblmompdcammeaa
open Go Go.VL
attribute [local simp] hcons hstep evPure opd uOf putOK St.put St.at getK binD binI binS binB nilD aggD eqUs cmpK shiftI arith unD convD pickD loadD cellsAt fieldAddrD fieldD indexAddrD indexD sliceD cutD lenD minmaxD nilCheckD buildD fillD cellsD isOne ones setAll mkAgg allU allocD boxD storeD St.add buildSliceD appendD rowsOf makeD setOb getK_setOb getK_del getK_cons stripL strip guardTmp entry chunks zcells valD argsV argsW argW argU1 argU0 argsU0 argsU1 calleeOf scalarD scalarU delAll effD St.effS applyW mkD rdIds lentIds callOf calleeOf freeOp D.ids Op.operands Call.operands isEffOp IntKind.bits allU2 allU2_append List.take_of_length_le List.range_succ
attribute [local irreducible] V G H HD HD2 RunK Eff CallP CallV EndOK Fun Ret FinOK LoopI
def stk (l : List Int) : List (List D) := l.map fun n => [.u (.int .i64 n)]
theorem stk_u (l : List Int) : uRows (stk l) := uRows_map l fun n => [.int .i64 n]
@[simp] theorem stk_length (l : List Int) : (stk l).length = l.length := by simp [stk]
@[simp] theorem stk_get (l : List Int) (j : Nat) : (stk l)[j]? = (l[j]?).map fun n => [.u (.int .i64 n)] := by simp [stk]
/-- The machine's variable. -/
def mbox (pc : Int) (sd : D) (en : Bool) (va er : Int) : Ob := .box [.u (.int .i64 pc), sd, .u (.bool en), .u (.int .i64 va), .u (.int .i64 er)]
theorem pop_ret (o : List (Nat × Ob)) (nx : Nat) (pc : Int) (n : Nat) (x : Int) (en : Bool) (va er : Int) (i : Nat) (r : List Int) (hi : i ≠ 0) (h0 : getK o 0 = some (mbox pc (.vec i (n + 1)) en va er)) (h1 : getK o i = some (.vec 3 1 (stk r))) (hx : r[n]? = some x) :
    Ret Try.prog 31 [.ptr 0 0] o nx (fun d o' n' => d = .u (.int .i64 x) ∧ o' = setOb o 0 (mbox pc (.vec i n) en va er) ∧ n' = nx) := by
  have hl := (List.getElem?_eq_some_iff.1 hx).1
  (refine Ret.of_body Try.func31 rfl (by simp) fun Γ hn => ?_); simp only [entry, List.zipIdx_cons, List.zipIdx_nil, List.map_cons, List.map_nil, Nat.zero_add, Try.ntmps31]
  simp only [mbox] at h0 ⊢
  refine V_vlen (i := i) (e := 3) (sz := 1) (rows := stk r) h1 fun hl2 => ?_
  simp at hl2
  repeat' (first
    | (refine H_cons ?_; simp [h0, h1, hi, hx])
    | (refine H_nil ?_)
    | (refine HD_nil ?_)
    | (refine HD_cons ?_; simp [h0, h1, hi, hx])
    | (refine HD_guardU rfl (by simp [h0, h1, hi, hx]) ?_; simp [h0, h1, hi, hx])
    | (refine HD_guard rfl (by simp [h0, h1, hi, hx]) (fun hc => ?_) (fun hc => ?_) <;> (try simp [h0, h1, hi, hx] at hc) <;> (try (exfalso; omega)) <;> (try simp [h0, h1, hi, hx]))
    | (refine V_seq ?_)
    | (refine V_region1 fun k hk => ?_; simp [h0, h1, hi, hx])
    | (refine V_drawV rfl (by kernel_rfl) (by kernel_rfl) fun k hk => ?_; simp [h0, h1, hi, hx])
    | (refine V_drawE rfl (by kernel_rfl) (by kernel_rfl) (by simp [hn]) fun C k hC hk => ?_; simp [h0, h1, hi, hx])
    | (refine HD2_nil (hC _ (by kernel_rfl)) (hk _ ?_); clear hC hk C k)
    | (refine HD2_val rfl ?_; simp [h0, h1, hi, hx])
    | (refine HD2_chg rfl ?_; simp [h0, h1, hi, hx])
    | (refine HD2_guardU rfl (by simp [h0, h1, hi, hx]) ?_; simp [h0, h1, hi, hx])
    | (refine HD2_guard rfl (by simp [h0, h1, hi, hx]) (fun hc => ?_) (fun hc => ?_) <;> (try simp [h0, h1, hi, hx] at hc) <;> (try (exfalso; omega)) <;> (try simp [h0, h1, hi, hx]))
    | (refine V_block ?_)
        | (refine V_ret ?_)
    | (refine V_exit ?_)
    | (refine V_skip ?_)
    | (refine R_seq ?_)
    | (refine R_seq_ret ?_)
    | (refine R_seq_exit ?_)
    | (refine R_blk_ret ?_)
    | (refine R_blk ?_)
    | (refine R_blk_exit ?_)
    | (refine R_blk_other (by decide) ?_)
    | (refine R_loop_ret ?_)
    | (refine R_loop_exit ?_)
    | (refine R_loop ?_)
    | (refine R_done ?_)
    | (refine hk _ ?_; clear hk k)
    | (refine ⟨by omega, ?_⟩)
    | (refine ⟨?_, by omega⟩)
    | (refine ⟨fun hc => ?_, fun hc => ?_⟩ <;> (try (exfalso; omega)))
    | (refine V_cond rfl (fun hc => ?_) (fun hc => ?_) <;> (try simp [h0, h1, hi, hx] at hc) <;> (try (exfalso; omega)))
    | (intro hc <;> (try (exfalso; omega))))
  (first | (refine EndOK.fin (.inr rfl) ?_) | (refine EndOK.fin (.inl rfl) ?_)); simp [resD, oneOrTup, Try.results31]
  refine FinOK.here ?_ ?_ <;> simp
theorem end_ret (o : List (Nat × Ob)) (nx : Nat) (pc : Int) (sd : D) (en : Bool) (va er va' er' : Int) (h0 : getK o 0 = some (mbox pc sd en va er)) :
    Ret Try.prog 23 [.ptr 0 0, .u (.int .i64 va'), .u (.int .i64 er')] o nx (fun _ o' n' => getK o' 0 = some (mbox pc (.u .nil) true va' er') ∧ n' = nx) := by
  (refine Ret.of_body Try.func23 rfl (by simp) fun Γ hn => ?_); simp only [entry, List.zipIdx_cons, List.zipIdx_nil, List.map_cons, List.map_nil, Nat.zero_add, Try.ntmps23]
  simp only [mbox] at h0 ⊢
  repeat' (first
    | (refine H_cons ?_; simp [h0])
    | (refine H_nil ?_)
    | (refine HD_nil ?_)
    | (refine HD_cons ?_; simp [h0])
    | (refine HD_guardU rfl (by simp [h0]) ?_; simp [h0])
    | (refine HD_guard rfl (by simp [h0]) (fun hc => ?_) (fun hc => ?_) <;> (try simp [h0] at hc) <;> (try (exfalso; omega)) <;> (try simp [h0]))
    | (refine V_seq ?_)
    | (refine V_region1 fun k hk => ?_; simp [h0])
    | (refine V_drawV rfl (by kernel_rfl) (by kernel_rfl) fun k hk => ?_; simp [h0])
    | (refine V_drawE rfl (by kernel_rfl) (by kernel_rfl) (by simp [hn]) fun C k hC hk => ?_; simp [h0])
    | (refine HD2_nil (hC _ (by kernel_rfl)) (hk _ ?_); clear hC hk C k)
    | (refine HD2_val rfl ?_; simp [h0])
    | (refine HD2_chg rfl ?_; simp [h0])
    | (refine HD2_guardU rfl (by simp [h0]) ?_; simp [h0])
    | (refine HD2_guard rfl (by simp [h0]) (fun hc => ?_) (fun hc => ?_) <;> (try simp [h0] at hc) <;> (try (exfalso; omega)) <;> (try simp [h0]))
    | (refine V_block ?_)
        | (refine V_ret ?_)
    | (refine V_exit ?_)
    | (refine V_skip ?_)
    | (refine R_seq ?_)
    | (refine R_seq_ret ?_)
    | (refine R_seq_exit ?_)
    | (refine R_blk_ret ?_)
    | (refine R_blk ?_)
    | (refine R_blk_exit ?_)
    | (refine R_blk_other (by decide) ?_)
    | (refine R_loop_ret ?_)
    | (refine R_loop_exit ?_)
    | (refine R_loop ?_)
    | (refine R_done ?_)
    | (refine hk _ ?_; clear hk k)
    | (refine ⟨by omega, ?_⟩)
    | (refine ⟨?_, by omega⟩)
    | (refine ⟨fun hc => ?_, fun hc => ?_⟩ <;> (try (exfalso; omega)))
    | (refine V_cond rfl (fun hc => ?_) (fun hc => ?_) <;> (try simp [h0] at hc) <;> (try (exfalso; omega)))
    | (intro hc <;> (try (exfalso; omega))))
  (first | (refine EndOK.fin (.inr rfl) ?_) | (refine EndOK.fin (.inl rfl) ?_)); simp [resD, oneOrTup, Try.results23]
  refine FinOK.here ?_ ?_ <;> simp
/-- The machine and its stack lie here. -/
def MAt (pc : Int) (st : List Int) (en : Bool) (va er : Int) (o : List (Nat × Ob)) (nx : Nat) : Prop :=
  (st = [] ∧ getK o 0 = some (mbox pc (.u .nil) en va er)) ∨
  ∃ i r, i ≠ 0 ∧ i < nx ∧ r.take st.length = st ∧ getK o 0 = some (mbox pc (.vec i st.length) en va er) ∧ getK o i = some (.vec 3 1 (stk r))
theorem push_nil (o : List (Nat × Ob)) (nx : Nat) (pc : Int) (x : Int) (en : Bool) (va er : Int) (hnx : 0 < nx) (h0 : getK o 0 = some (mbox pc (.u .nil) en va er)) (hx : -1099511627776 ≤ x ∧ x ≤ 1099511627776) (hp : pc < 9223372036854775807 ∧ -9223372036854775808 ≤ pc) :
    Ret Try.prog 28 [.ptr 0 0, .u (.int .i64 x)] o nx (fun _ o' n' => MAt (pc + 1) [x] en va er o' n') := by
  have hn1 : 0 ≠ nx := by omega
  have hn2 : nx ≠ 0 := by omega
  (refine Ret.of_body Try.func28 rfl (by simp) fun Γ hn => ?_); simp only [entry, List.zipIdx_cons, List.zipIdx_nil, List.map_cons, List.map_nil, Nat.zero_add, Try.ntmps28]
  simp only [mbox] at h0 ⊢
  repeat' (first
    | (first | (refine CallV.fun_ (within_fun x) (by rfl) (by first | assumption | (simp; done) | fail) (by first | (simp [h0, hx, hn1, hn2]; done) | (simp [h0, hx, hn1, hn2]; rfl)) (by first | (simp; done) | fail) ?_ <;> (try simp [h0, hx, hn1, hn2])) | (refine CallP.fun_ (within_fun x) (by rfl) (by first | assumption | (simp; done) | fail) (by first | (simp [h0, hx, hn1, hn2]; done) | (simp [h0, hx, hn1, hn2]; rfl)) (by first | (simp; done) | fail) (fun d hd => ?_); subst hd; (try simp [h0, hx, hn1, hn2])))
    | (refine H_cons ?_; simp [h0, hx, hn1, hn2])
    | (refine H_nil ?_)
    | (refine HD_nil ?_)
    | (refine HD_cons ?_; simp [h0, hx, hn1, hn2])
    | (refine HD_guardU rfl (by simp [h0, hx, hn1, hn2]) ?_; simp [h0, hx, hn1, hn2])
    | (refine HD_guard rfl (by simp [h0, hx, hn1, hn2]) (fun hc => ?_) (fun hc => ?_) <;> (try simp [h0, hx, hn1, hn2] at hc) <;> (try (exfalso; omega)) <;> (try simp [h0, hx, hn1, hn2]))
    | (refine V_seq ?_)
    | (refine V_region1 fun k hk => ?_; simp [h0, hx, hn1, hn2])
    | (refine V_drawV rfl (by kernel_rfl) (by kernel_rfl) fun k hk => ?_; simp [h0, hx, hn1, hn2])
    | (refine V_drawE rfl (by kernel_rfl) (by kernel_rfl) (by simp [hn]) fun C k hC hk => ?_; simp [h0, hx, hn1, hn2])
    | (refine HD2_nil (hC _ (by kernel_rfl)) (hk _ ?_); clear hC hk C k)
    | (refine HD2_val rfl ?_; simp [h0, hx, hn1, hn2])
    | (refine HD2_chg rfl ?_; simp [h0, hx, hn1, hn2])
    | (refine HD2_guardU rfl (by simp [h0, hx, hn1, hn2]) ?_; simp [h0, hx, hn1, hn2])
    | (refine HD2_guard rfl (by simp [h0, hx, hn1, hn2]) (fun hc => ?_) (fun hc => ?_) <;> (try simp [h0, hx, hn1, hn2] at hc) <;> (try (exfalso; omega)) <;> (try simp [h0, hx, hn1, hn2]))
    | (refine V_block ?_)
        | (refine V_ret ?_)
    | (refine V_exit ?_)
    | (refine V_skip ?_)
    | (refine R_seq ?_)
    | (refine R_seq_ret ?_)
    | (refine R_seq_exit ?_)
    | (refine R_blk_ret ?_)
    | (refine R_blk ?_)
    | (refine R_blk_exit ?_)
    | (refine R_blk_other (by decide) ?_)
    | (refine R_loop_ret ?_)
    | (refine R_loop_exit ?_)
    | (refine R_loop ?_)
    | (refine R_done ?_)
    | (refine hk _ ?_; clear hk k)
    | (refine ⟨by omega, ?_⟩)
    | (refine ⟨?_, by omega⟩)
    | (refine ⟨fun hc => ?_, fun hc => ?_⟩ <;> (try (exfalso; omega)))
    | (refine V_cond rfl (fun hc => ?_) (fun hc => ?_) <;> (try simp [h0, hx, hn1, hn2] at hc) <;> (try (exfalso; omega)))
    | (intro hc <;> (try (exfalso; omega))))
  (first | (refine EndOK.fin (.inr rfl) ?_) | (refine EndOK.fin (.inl rfl) ?_)); simp [resD, oneOrTup, Try.results28]
  refine FinOK.here (by simp; omega) (.inr ⟨nx + 1, [x], by omega, by simp, by simp, ?_, ?_⟩) <;> simp [mbox, stk, hn1, getK_cons]
theorem push_vec (o : List (Nat × Ob)) (nx : Nat) (pc : Int) (st : List Int) (x : Int) (en : Bool) (va er : Int) (i : Nat) (r : List Int) (hi : i ≠ 0) (hin : i < nx) (h0 : getK o 0 = some (mbox pc (.vec i st.length) en va er)) (h1 : getK o i = some (.vec 3 1 (stk r)))
    (hr : r.take st.length = st) (hl : st.length < 100000) (hx : -1099511627776 ≤ x ∧ x ≤ 1099511627776) (hp : pc < 9223372036854775807 ∧ -9223372036854775808 ≤ pc) :
    Ret Try.prog 28 [.ptr 0 0, .u (.int .i64 x)] o nx (fun _ o' n' => MAt (pc + 1) (st ++ [x]) en va er o' n') := by
  have hrl : st.length ≤ r.length := by
    have := congrArg List.length hr
    simp at this
    omega
  have hrs : (stk r).take st.length = stk st := by rw [stk, ← List.map_take, hr]; rfl
  have hi1 : 0 ≠ i := by omega
  have hin1 : nx ≠ i := by omega
  have hin' : i ≠ nx := by omega
  have hn1 : 0 ≠ nx := by omega
  have hn2 : nx ≠ 0 := by omega
  (refine Ret.of_body Try.func28 rfl (by simp) fun Γ hn => ?_); simp only [entry, List.zipIdx_cons, List.zipIdx_nil, List.map_cons, List.map_nil, Nat.zero_add, Try.ntmps28]
  simp only [mbox] at h0 ⊢
  repeat' (first
    | (first | (refine CallV.fun_ (within_fun x) (by rfl) (by first | assumption | (simp; done) | fail) (by first | (simp [h0, h1, hx, hi, hi1, hin1, hin', hn1, hn2, hrs, hrl]; done) | (simp [h0, h1, hx, hi, hi1, hin1, hin', hn1, hn2, hrs, hrl]; rfl)) (by first | (simp; done) | fail) ?_ <;> (try simp [h0, h1, hx, hi, hi1, hin1, hin', hn1, hn2, hrs, hrl])) | (refine CallP.fun_ (within_fun x) (by rfl) (by first | assumption | (simp; done) | fail) (by first | (simp [h0, h1, hx, hi, hi1, hin1, hin', hn1, hn2, hrs, hrl]; done) | (simp [h0, h1, hx, hi, hi1, hin1, hin', hn1, hn2, hrs, hrl]; rfl)) (by first | (simp; done) | fail) (fun d hd => ?_); subst hd; (try simp [h0, h1, hx, hi, hi1, hin1, hin', hn1, hn2, hrs, hrl])))
    | (refine H_cons ?_; simp [h0, h1, hx, hi, hi1, hin1, hin', hn1, hn2, hrs, hrl])
    | (refine H_nil ?_)
    | (refine HD_nil ?_)
    | (refine HD_cons ?_; simp [h0, h1, hx, hi, hi1, hin1, hin', hn1, hn2, hrs, hrl])
    | (refine HD_guardU rfl (by simp [h0, h1, hx, hi, hi1, hin1, hin', hn1, hn2, hrs, hrl]) ?_; simp [h0, h1, hx, hi, hi1, hin1, hin', hn1, hn2, hrs, hrl])
    | (refine HD_guard rfl (by simp [h0, h1, hx, hi, hi1, hin1, hin', hn1, hn2, hrs, hrl]) (fun hc => ?_) (fun hc => ?_) <;> (try simp [h0, h1, hx, hi, hi1, hin1, hin', hn1, hn2, hrs, hrl] at hc) <;> (try (exfalso; omega)) <;> (try simp [h0, h1, hx, hi, hi1, hin1, hin', hn1, hn2, hrs, hrl]))
    | (refine V_seq ?_)
    | (refine V_region1 fun k hk => ?_; simp [h0, h1, hx, hi, hi1, hin1, hin', hn1, hn2, hrs, hrl])
    | (refine V_drawV rfl (by kernel_rfl) (by kernel_rfl) fun k hk => ?_; simp [h0, h1, hx, hi, hi1, hin1, hin', hn1, hn2, hrs, hrl])
    | (refine V_drawE rfl (by kernel_rfl) (by kernel_rfl) (by simp [hn]) fun C k hC hk => ?_; simp [h0, h1, hx, hi, hi1, hin1, hin', hn1, hn2, hrs, hrl])
    | (refine HD2_nil (hC _ (by kernel_rfl)) (hk _ ?_); clear hC hk C k)
    | (refine HD2_val rfl ?_; simp [h0, h1, hx, hi, hi1, hin1, hin', hn1, hn2, hrs, hrl])
    | (refine HD2_chg rfl ?_; simp [h0, h1, hx, hi, hi1, hin1, hin', hn1, hn2, hrs, hrl])
    | (refine HD2_guardU rfl (by simp [h0, h1, hx, hi, hi1, hin1, hin', hn1, hn2, hrs, hrl]) ?_; simp [h0, h1, hx, hi, hi1, hin1, hin', hn1, hn2, hrs, hrl])
    | (refine HD2_guard rfl (by simp [h0, h1, hx, hi, hi1, hin1, hin', hn1, hn2, hrs, hrl]) (fun hc => ?_) (fun hc => ?_) <;> (try simp [h0, h1, hx, hi, hi1, hin1, hin', hn1, hn2, hrs, hrl] at hc) <;> (try (exfalso; omega)) <;> (try simp [h0, h1, hx, hi, hi1, hin1, hin', hn1, hn2, hrs, hrl]))
    | (refine V_block ?_)
        | (refine V_ret ?_)
    | (refine V_exit ?_)
    | (refine V_skip ?_)
    | (refine R_seq ?_)
    | (refine R_seq_ret ?_)
    | (refine R_seq_exit ?_)
    | (refine R_blk_ret ?_)
    | (refine R_blk ?_)
    | (refine R_blk_exit ?_)
    | (refine R_blk_other (by decide) ?_)
    | (refine R_loop_ret ?_)
    | (refine R_loop_exit ?_)
    | (refine R_loop ?_)
    | (refine R_done ?_)
    | (refine hk _ ?_; clear hk k)
    | (refine ⟨by omega, ?_⟩)
    | (refine ⟨?_, by omega⟩)
    | (refine ⟨fun hc => ?_, fun hc => ?_⟩ <;> (try (exfalso; omega)))
    | (refine V_cond rfl (fun hc => ?_) (fun hc => ?_) <;> (try simp [h0, h1, hx, hi, hi1, hin1, hin', hn1, hn2, hrs, hrl] at hc) <;> (try (exfalso; omega)))
    | (intro hc <;> (try (exfalso; omega))))
  (first | (refine EndOK.fin (.inr rfl) ?_) | (refine EndOK.fin (.inl rfl) ?_)); simp [resD, oneOrTup, Try.results28]
  refine FinOK.here (by simp; omega) (.inr ⟨nx + 1, st ++ [x], by omega, by simp, List.take_of_length_le (Nat.le_refl _), ?_, ?_⟩) <;> simp [mbox, stk, hn1, getK_cons]
end Go.Proofs.Ytblmompdcammeaa
