/- The machine's closures, and the search among the given values. -/
import Derived.Test.YtblmompdcammeaaWe
set_option linter.all false
namespace Go.Proofs.Ytblmompdcammeaa
open Go Go.VL
attribute [local simp] hcons hstep evPure opd uOf putOK St.put St.at getK binD binI binS binB nilD aggD eqUs cmpK shiftI arith unD convD pickD loadD cellsAt fieldAddrD fieldD indexAddrD indexD sliceD cutD lenD minmaxD nilCheckD buildD fillD cellsD isOne ones setAll mkAgg allU allocD boxD storeD St.add buildSliceD appendD rowsOf makeD setOb getK_setOb getK_del getK_cons stripL strip guardTmp entry chunks zcells valD argsV argsW argW argU1 argU0 argsU0 argsU1 calleeOf scalarD scalarU delAll effD St.effS applyW mkD rdIds lentIds callOf calleeOf freeOp D.ids Op.operands Call.operands isEffOp IntKind.bits allU2 allU2_append List.take_of_length_le List.range_succ
attribute [local irreducible] V G H HD HD2 RunK Eff CallP CallV EndOK Fun Ret FinOK LoopI
structure Var where
  name : List UInt8
  unit : Int
  n : Int
  deriving DecidableEq
structure Ins where
  op : Int
  a : Int
  s : List UInt8
  deriving DecidableEq
def Var.row (v : Var) : List U := [.str v.name, .int .i64 v.unit, .int .i64 v.n]
def Ins.row (c : Ins) : List U := [.int .i64 c.op, .int .i64 c.a, .str c.s]
def vars (l : List Var) : U := .sl (l.map fun v => [.str v.name, .int .i64 v.unit, .int .i64 v.n])
def inss (l : List Ins) : U := .sl (l.map fun c => [.int .i64 c.op, .int .i64 c.a, .str c.s])
def vagg (v : Var) : D := .u (.agg v.row)
theorem indexVar_fun (l : List Var) (f : FuncId) (caps : List U) (p : Var → Bool) (hf : ∀ n ∈ l, Fun Try.prog f (vagg n :: caps.map .u) (· = .u (.bool (p n)))) (hcl : callable Try.prog f = true)
    (hca : ∀ o, argsW o (caps.map .u) = some (caps.map .u, [])) : Fun Try.prog 29 [.u (vars l), .fnc (.func f) (caps.map .u)] (· = .u (.int .i64 (Pm.idx p l))) := by
  (refine Fun.of_body Try.func29 rfl (by simp) fun Γ hn => ?_); simp only [entry, List.zipIdx_cons, List.zipIdx_nil, List.map_cons, List.map_nil, Nat.zero_add, Try.ntmps29]
  simp only [vars]
  refine V_len (x := 0) rfl fun hl => ?_
  simp at hl
  repeat' (first
    | (refine H_cons ?_; simp)
    | (refine H_nil ?_)
    | (refine HD_nil ?_)
    | (refine HD_cons ?_; simp)
    | (refine HD_guardU rfl (by simp) ?_; simp)
    | (refine HD_guard rfl (by simp) (fun hc => ?_) (fun hc => ?_) <;> (try simp at hc) <;> (try (exfalso; omega)) <;> (try simp))
    | (refine V_seq ?_)
    | (refine V_region1 fun k hk => ?_; simp)
    | (refine V_drawV rfl (by kernel_rfl) (by kernel_rfl) fun k hk => ?_; simp)
    | (refine V_drawE rfl (by kernel_rfl) (by kernel_rfl) (by simp [hn]) fun C k hC hk => ?_; simp)
    | (refine HD2_nil (hC _ (by kernel_rfl)) (hk _ ?_); clear hC hk C k)
    | (refine HD2_val rfl ?_; simp)
    | (refine HD2_chg rfl ?_; simp)
    | (refine HD2_guardU rfl (by simp) ?_; simp)
    | (refine HD2_guard rfl (by simp) (fun hc => ?_) (fun hc => ?_) <;> (try simp at hc) <;> (try (exfalso; omega)) <;> (try simp))
    | (refine V_block ?_)
        | (refine V_ret ?_)
    | (refine V_exit ?_)
    | (refine V_skip ?_)
    | (refine R_seq ?_)
    | (refine R_seq_ret ?_)
    | (refine R_seq_exit ?_)
    | (refine R_blk_ret ?_)
    | (refine R_blk ?_)
    | (refine R_blk_exit ?_)
    | (refine R_blk_other (by decide) ?_)
    | (refine R_loop_ret ?_)
    | (refine R_loop_exit ?_)
    | (refine R_loop ?_)
    | (refine R_done ?_)
    | (refine hk _ ?_; clear hk k)
    | (refine ⟨by omega, ?_⟩)
    | (refine ⟨?_, by omega⟩)
    | (refine ⟨fun hc => ?_, fun hc => ?_⟩ <;> (try (exfalso; omega)))
    | (refine V_cond rfl (fun hc => ?_) (fun hc => ?_) <;> (try simp at hc) <;> (try (exfalso; omega)))
    | (intro hc <;> (try (exfalso; omega))))
  refine V_loop (α := { i : Nat // i ≤ l.length ∧ ∀ j y, j < i → l[j]? = some y → p y = false })
    (fun i => { n := 19, env := [(0, .u (.sl (l.map fun n => [.str n.name, .int .i64 n.unit, .int .i64 n.n]))), (1, .fnc (.func f) (caps.map .u)), (7, .u (.int .i64 l.length)), (8, .u (.int .i64 i.1))], obs := [], next := 0 })
    (fun i => l.length - i.1) ⟨0, by omega, by omega⟩ (fun i => i) ?_ ?_
  · (refine St.le_of rfl ?_ ?_ ?_ ?_ <;> simp [leEnv, leObs, leL, D.le, D.ren, D.under, hn])
  rintro ⟨i, hi, hb⟩
  rcases hx : l[i]? with _ | n
  · have hge : l.length ≤ i := by simpa using hx
    repeat' (first
    | (refine H_cons ?_; simp [hx])
    | (refine H_nil ?_)
    | (refine HD_nil ?_)
    | (refine HD_cons ?_; simp [hx])
    | (refine HD_guardU rfl (by simp [hx]) ?_; simp [hx])
    | (refine HD_guard rfl (by simp [hx]) (fun hc => ?_) (fun hc => ?_) <;> (try simp [hx] at hc) <;> (try (exfalso; omega)) <;> (try simp [hx]))
    | (refine V_seq ?_)
    | (refine V_region1 fun k hk => ?_; simp [hx])
    | (refine V_drawV rfl (by kernel_rfl) (by kernel_rfl) fun k hk => ?_; simp [hx])
    | (refine V_drawE rfl (by kernel_rfl) (by kernel_rfl) (by simp [hn]) fun C k hC hk => ?_; simp [hx])
    | (refine HD2_nil (hC _ (by kernel_rfl)) (hk _ ?_); clear hC hk C k)
    | (refine HD2_val rfl ?_; simp [hx])
    | (refine HD2_chg rfl ?_; simp [hx])
    | (refine HD2_guardU rfl (by simp [hx]) ?_; simp [hx])
    | (refine HD2_guard rfl (by simp [hx]) (fun hc => ?_) (fun hc => ?_) <;> (try simp [hx] at hc) <;> (try (exfalso; omega)) <;> (try simp [hx]))
    | (refine V_block ?_)
        | (refine V_ret ?_)
    | (refine V_exit ?_)
    | (refine V_skip ?_)
    | (refine R_seq ?_)
    | (refine R_seq_ret ?_)
    | (refine R_seq_exit ?_)
    | (refine R_blk_ret ?_)
    | (refine R_blk ?_)
    | (refine R_blk_exit ?_)
    | (refine R_blk_other (by decide) ?_)
    | (refine R_loop_ret ?_)
    | (refine R_loop_exit ?_)
    | (refine R_loop ?_)
    | (refine R_done ?_)
    | (refine hk _ ?_; clear hk k)
    | (refine ⟨by omega, ?_⟩)
    | (refine ⟨?_, by omega⟩)
    | (refine ⟨fun hc => ?_, fun hc => ?_⟩ <;> (try (exfalso; omega)))
    | (refine V_cond rfl (fun hc => ?_) (fun hc => ?_) <;> (try simp [hx] at hc) <;> (try (exfalso; omega)))
    | (intro hc <;> (try (exfalso; omega))))
    (refine EndOK.val (.inr rfl) ?_; simp [resD, oneOrTup, pureD, Try.results29])
    refine (Pm.idx_none fun x hm => ?_).symm
    obtain ⟨j, hj⟩ := List.getElem?_of_mem hm
    exact hb j x (by have := (List.getElem?_eq_some_iff.1 hj).1; omega) hj
  · have hlt : i < l.length := (List.getElem?_eq_some_iff.1 hx).1
    have h1 := hf n (List.mem_of_getElem? hx)
    simp only [vagg, Var.row] at h1
    repeat' (first
    | (first | (refine CallV.fun_ (h1) (by rfl) (by first | assumption | (simp; done) | fail) (by first | (simp [hx, hca]; done) | (simp [hx, hca]; rfl)) (by first | (simp; done) | fail) ?_ <;> (try simp [hx, hca])) | (refine CallP.fun_ (h1) (by rfl) (by first | assumption | (simp; done) | fail) (by first | (simp [hx, hca]; done) | (simp [hx, hca]; rfl)) (by first | (simp; done) | fail) (fun d hd => ?_); subst hd; (try simp [hx, hca])))
    | (refine H_cons ?_; simp [hx, hca])
    | (refine H_nil ?_)
    | (refine HD_nil ?_)
    | (refine HD_cons ?_; simp [hx, hca])
    | (refine HD_guardU rfl (by simp [hx, hca]) ?_; simp [hx, hca])
    | (refine HD_guard rfl (by simp [hx, hca]) (fun hc => ?_) (fun hc => ?_) <;> (try simp [hx, hca] at hc) <;> (try (exfalso; omega)) <;> (try simp [hx, hca]))
    | (refine V_seq ?_)
    | (refine V_region1 fun k hk => ?_; simp [hx, hca])
    | (refine V_drawV rfl (by kernel_rfl) (by kernel_rfl) fun k hk => ?_; simp [hx, hca])
    | (refine V_drawE rfl (by kernel_rfl) (by kernel_rfl) (by simp [hn]) fun C k hC hk => ?_; simp [hx, hca])
    | (refine HD2_nil (hC _ (by kernel_rfl)) (hk _ ?_); clear hC hk C k)
    | (refine HD2_val rfl ?_; simp [hx, hca])
    | (refine HD2_chg rfl ?_; simp [hx, hca])
    | (refine HD2_guardU rfl (by simp [hx, hca]) ?_; simp [hx, hca])
    | (refine HD2_guard rfl (by simp [hx, hca]) (fun hc => ?_) (fun hc => ?_) <;> (try simp [hx, hca] at hc) <;> (try (exfalso; omega)) <;> (try simp [hx, hca]))
    | (refine V_block ?_)
        | (refine V_ret ?_)
    | (refine V_exit ?_)
    | (refine V_skip ?_)
    | (refine R_seq ?_)
    | (refine R_seq_ret ?_)
    | (refine R_seq_exit ?_)
    | (refine R_blk_ret ?_)
    | (refine R_blk ?_)
    | (refine R_blk_exit ?_)
    | (refine R_blk_other (by decide) ?_)
    | (refine R_loop_ret ?_)
    | (refine R_loop_exit ?_)
    | (refine R_loop ?_)
    | (refine R_done ?_)
    | (refine hk _ ?_; clear hk k)
    | (refine ⟨by omega, ?_⟩)
    | (refine ⟨?_, by omega⟩)
    | (refine ⟨fun hc => ?_, fun hc => ?_⟩ <;> (try (exfalso; omega)))
    | (refine V_cond rfl (fun hc => ?_) (fun hc => ?_) <;> (try simp [hx, hca] at hc) <;> (try (exfalso; omega)))
    | (intro hc <;> (try (exfalso; omega))))
    · (refine EndOK.val (.inr rfl) ?_; simp [resD, oneOrTup, pureD, Try.results29])
      exact (Pm.idx_at hx (by assumption) hb).symm
    · have hb' : ∀ j y, j < i + 1 → l[j]? = some y → p y = false := fun j y hj hy => by
        by_cases hji : j = i
        · subst hji; rw [hx] at hy; cases hy; assumption
        · exact hb j y (by omega) hy
      refine LoopI.next ?y (fun i => i) ?h1 ?h2
      case y => exact ⟨i + 1, by omega, hb'⟩
      case h1 => simp; omega
      case h2 => (refine St.le_of rfl ?_ ?_ ?_ ?_ <;> simp [leEnv, leObs, leL, D.le, D.ren, D.under, hn])
theorem step1_fun (n : Int) : Fun Try.prog 26 [.u (.int .i64 n)] (· = .u (.bool (!decide (-1099511627776 ≤ n ∧ n ≤ 1099511627776)))) := by
  (refine Fun.of_body Try.func26 rfl (by simp) fun Γ hn => ?_); simp only [entry, List.zipIdx_cons, List.zipIdx_nil, List.map_cons, List.map_nil, Nat.zero_add, Try.ntmps26]
  repeat' (first
    | (first | (refine CallV.fun_ (within_fun n) (by rfl) (by first | assumption | (simp; done) | fail) (by first | (simp; done) | (simp; rfl)) (by first | (simp; done) | fail) ?_ <;> (try simp)) | (refine CallP.fun_ (within_fun n) (by rfl) (by first | assumption | (simp; done) | fail) (by first | (simp; done) | (simp; rfl)) (by first | (simp; done) | fail) (fun d hd => ?_); subst hd; (try simp)))
    | (refine H_cons ?_; simp)
    | (refine H_nil ?_)
    | (refine HD_nil ?_)
    | (refine HD_cons ?_; simp)
    | (refine HD_guardU rfl (by simp) ?_; simp)
    | (refine HD_guard rfl (by simp) (fun hc => ?_) (fun hc => ?_) <;> (try simp at hc) <;> (try (exfalso; omega)) <;> (try simp))
    | (refine V_seq ?_)
    | (refine V_region1 fun k hk => ?_; simp)
    | (refine V_drawV rfl (by kernel_rfl) (by kernel_rfl) fun k hk => ?_; simp)
    | (refine V_drawE rfl (by kernel_rfl) (by kernel_rfl) (by simp [hn]) fun C k hC hk => ?_; simp)
    | (refine HD2_nil (hC _ (by kernel_rfl)) (hk _ ?_); clear hC hk C k)
    | (refine HD2_val rfl ?_; simp)
    | (refine HD2_chg rfl ?_; simp)
    | (refine HD2_guardU rfl (by simp) ?_; simp)
    | (refine HD2_guard rfl (by simp) (fun hc => ?_) (fun hc => ?_) <;> (try simp at hc) <;> (try (exfalso; omega)) <;> (try simp))
    | (refine V_block ?_)
        | (refine V_ret ?_)
    | (refine V_exit ?_)
    | (refine V_skip ?_)
    | (refine R_seq ?_)
    | (refine R_seq_ret ?_)
    | (refine R_seq_exit ?_)
    | (refine R_blk_ret ?_)
    | (refine R_blk ?_)
    | (refine R_blk_exit ?_)
    | (refine R_blk_other (by decide) ?_)
    | (refine R_loop_ret ?_)
    | (refine R_loop_exit ?_)
    | (refine R_loop ?_)
    | (refine R_done ?_)
    | (refine hk _ ?_; clear hk k)
    | (refine ⟨by omega, ?_⟩)
    | (refine ⟨?_, by omega⟩)
    | (refine ⟨fun hc => ?_, fun hc => ?_⟩ <;> (try (exfalso; omega)))
    | (refine V_cond rfl (fun hc => ?_) (fun hc => ?_) <;> (try simp at hc) <;> (try (exfalso; omega)))
    | (intro hc <;> (try (exfalso; omega))))
  (refine EndOK.val (.inr rfl) ?_; simp [resD, oneOrTup, pureD, Try.results26])
theorem step2_fun (v : Var) (c : Ins) : Fun Try.prog 30 [vagg v, .u (.row c.row 0)] (· = .u (.bool (decide (v.name = c.s)))) := by
  (refine Fun.of_body Try.func30 rfl (by simp) fun Γ hn => ?_); simp only [entry, List.zipIdx_cons, List.zipIdx_nil, List.map_cons, List.map_nil, Nat.zero_add, Try.ntmps30]
  simp only [vagg, Var.row, Ins.row]
  repeat' (first
    | (refine H_cons ?_; simp)
    | (refine H_nil ?_)
    | (refine HD_nil ?_)
    | (refine HD_cons ?_; simp)
    | (refine HD_guardU rfl (by simp) ?_; simp)
    | (refine HD_guard rfl (by simp) (fun hc => ?_) (fun hc => ?_) <;> (try simp at hc) <;> (try (exfalso; omega)) <;> (try simp))
    | (refine V_seq ?_)
    | (refine V_region1 fun k hk => ?_; simp)
    | (refine V_drawV rfl (by kernel_rfl) (by kernel_rfl) fun k hk => ?_; simp)
    | (refine V_drawE rfl (by kernel_rfl) (by kernel_rfl) (by simp [hn]) fun C k hC hk => ?_; simp)
    | (refine HD2_nil (hC _ (by kernel_rfl)) (hk _ ?_); clear hC hk C k)
    | (refine HD2_val rfl ?_; simp)
    | (refine HD2_chg rfl ?_; simp)
    | (refine HD2_guardU rfl (by simp) ?_; simp)
    | (refine HD2_guard rfl (by simp) (fun hc => ?_) (fun hc => ?_) <;> (try simp at hc) <;> (try (exfalso; omega)) <;> (try simp))
    | (refine V_block ?_)
        | (refine V_ret ?_)
    | (refine V_exit ?_)
    | (refine V_skip ?_)
    | (refine R_seq ?_)
    | (refine R_seq_ret ?_)
    | (refine R_seq_exit ?_)
    | (refine R_blk_ret ?_)
    | (refine R_blk ?_)
    | (refine R_blk_exit ?_)
    | (refine R_blk_other (by decide) ?_)
    | (refine R_loop_ret ?_)
    | (refine R_loop_exit ?_)
    | (refine R_loop ?_)
    | (refine R_done ?_)
    | (refine hk _ ?_; clear hk k)
    | (refine ⟨by omega, ?_⟩)
    | (refine ⟨?_, by omega⟩)
    | (refine ⟨fun hc => ?_, fun hc => ?_⟩ <;> (try (exfalso; omega)))
    | (refine V_cond rfl (fun hc => ?_) (fun hc => ?_) <;> (try simp at hc) <;> (try (exfalso; omega)))
    | (intro hc <;> (try (exfalso; omega))))
  (refine EndOK.val (.inr rfl) ?_; simp [resD, oneOrTup, pureD, Try.results30])
theorem contains_fun (l : List Int) : Fun Try.prog 25 [.u (ints l), .fnc (.func 26) []] (· = .u (.bool (l.any fun n => !decide (-1099511627776 ≤ n ∧ n ≤ 1099511627776)))) := by
  (refine Fun.of_body Try.func25 rfl (by simp) fun Γ hn => ?_); simp only [entry, List.zipIdx_cons, List.zipIdx_nil, List.map_cons, List.map_nil, Nat.zero_add, Try.ntmps25]
  simp only [ints]
  have h1 := indexInt_fun l 26 [] _ (fun n _ => step1_fun n) (by simp) (fun _ => rfl)
  simp only [ints, List.map_nil] at h1
  repeat' (first
    | (first | (refine CallV.fun_ (h1) (by rfl) (by first | assumption | (simp; done) | fail) (by first | (simp; done) | (simp; rfl)) (by first | (simp; done) | fail) ?_ <;> (try simp)) | (refine CallP.fun_ (h1) (by rfl) (by first | assumption | (simp; done) | fail) (by first | (simp; done) | (simp; rfl)) (by first | (simp; done) | fail) (fun d hd => ?_); subst hd; (try simp)))
    | (refine H_cons ?_; simp)
    | (refine H_nil ?_)
    | (refine HD_nil ?_)
    | (refine HD_cons ?_; simp)
    | (refine HD_guardU rfl (by simp) ?_; simp)
    | (refine HD_guard rfl (by simp) (fun hc => ?_) (fun hc => ?_) <;> (try simp at hc) <;> (try (exfalso; omega)) <;> (try simp))
    | (refine V_seq ?_)
    | (refine V_region1 fun k hk => ?_; simp)
    | (refine V_drawV rfl (by kernel_rfl) (by kernel_rfl) fun k hk => ?_; simp)
    | (refine V_drawE rfl (by kernel_rfl) (by kernel_rfl) (by simp [hn]) fun C k hC hk => ?_; simp)
    | (refine HD2_nil (hC _ (by kernel_rfl)) (hk _ ?_); clear hC hk C k)
    | (refine HD2_val rfl ?_; simp)
    | (refine HD2_chg rfl ?_; simp)
    | (refine HD2_guardU rfl (by simp) ?_; simp)
    | (refine HD2_guard rfl (by simp) (fun hc => ?_) (fun hc => ?_) <;> (try simp at hc) <;> (try (exfalso; omega)) <;> (try simp))
    | (refine V_block ?_)
        | (refine V_ret ?_)
    | (refine V_exit ?_)
    | (refine V_skip ?_)
    | (refine R_seq ?_)
    | (refine R_seq_ret ?_)
    | (refine R_seq_exit ?_)
    | (refine R_blk_ret ?_)
    | (refine R_blk ?_)
    | (refine R_blk_exit ?_)
    | (refine R_blk_other (by decide) ?_)
    | (refine R_loop_ret ?_)
    | (refine R_loop_exit ?_)
    | (refine R_loop ?_)
    | (refine R_done ?_)
    | (refine hk _ ?_; clear hk k)
    | (refine ⟨by omega, ?_⟩)
    | (refine ⟨?_, by omega⟩)
    | (refine ⟨fun hc => ?_, fun hc => ?_⟩ <;> (try (exfalso; omega)))
    | (refine V_cond rfl (fun hc => ?_) (fun hc => ?_) <;> (try simp at hc) <;> (try (exfalso; omega)))
    | (intro hc <;> (try (exfalso; omega))))
  (refine EndOK.val (.inr rfl) ?_; simp [resD, oneOrTup, pureD, Try.results25])
  rw [← Pm.idx_any]
end Go.Proofs.Ytblmompdcammeaa
