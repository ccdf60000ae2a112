/- The search functions of the standard library, by value. -/
import Derived.Test.YtblmompdcammeaaWd
import Derived.Test.YtblmompdcammeaaVLy
set_option linter.all false
namespace Go.Pm
def idx {α : Type} (p : α → Bool) (l : List α) : Int := match l.findIdx? p with | some i => i | none => -1
theorem idx_at {α : Type} {p : α → Bool} {l : List α} {i : Nat} {x : α} (hi : l[i]? = some x) (hp : p x = true) (hb : ∀ j y, j < i → l[j]? = some y → p y = false) : idx p l = i := by
  have : l.findIdx? p = some i := by
    rw [List.findIdx?_eq_some_iff_getElem]
    obtain ⟨h, rfl⟩ := List.getElem?_eq_some_iff.1 hi
    exact ⟨h, hp, fun j hj => by have := hb j l[j] hj (List.getElem?_eq_getElem _); simp [this]⟩
  simp [idx, this]
theorem idx_none {α : Type} {p : α → Bool} {l : List α} (h : ∀ x ∈ l, p x = false) : idx p l = -1 := by
  have : l.findIdx? p = none := by rw [List.findIdx?_eq_none_iff]; exact h
  simp [idx, this]
theorem idx_any {α : Type} (p : α → Bool) (l : List α) : decide (0 ≤ idx p l) = l.any p := by
  unfold idx
  cases h : l.findIdx? p with
  | none => rw [List.findIdx?_eq_none_iff] at h; simp; exact h
  | some i =>
    rw [List.findIdx?_eq_some_iff_getElem] at h
    obtain ⟨hi, hp, _⟩ := h
    simp
    exact ⟨l[i], List.getElem_mem _, hp⟩
end Go.Pm
namespace Go.Proofs.Ytblmompdcammeaa
open Go Go.VL
attribute [local simp] hcons hstep evPure opd uOf putOK St.put St.at getK binD binI binS binB nilD aggD eqUs cmpK shiftI arith unD convD pickD loadD cellsAt fieldAddrD fieldD indexAddrD indexD sliceD cutD lenD minmaxD nilCheckD buildD fillD cellsD isOne ones setAll mkAgg allU allocD boxD storeD St.add buildSliceD appendD rowsOf makeD setOb getK_setOb getK_del getK_cons stripL strip guardTmp entry chunks zcells valD argsV argsW argW argU1 argU0 argsU0 argsU1 calleeOf scalarD scalarU delAll effD St.effS applyW mkD rdIds lentIds callOf calleeOf freeOp D.ids Op.operands Call.operands isEffOp IntKind.bits allU2 allU2_append List.take_of_length_le List.range_succ
attribute [local irreducible] V G H HD HD2 RunK Eff CallP CallV EndOK Fun Ret FinOK LoopI
def ints (l : List Int) : U := .sl (l.map fun n => [.int .i64 n])
theorem indexInt_fun (l : List Int) (f : FuncId) (caps : List U) (p : Int → Bool) (hf : ∀ n ∈ l, Fun Try.prog f (.u (.int .i64 n) :: caps.map .u) (· = .u (.bool (p n)))) (hcl : callable Try.prog f = true)
    (hca : ∀ o, argsW o (caps.map .u) = some (caps.map .u, [])) : Fun Try.prog 38 [.u (ints l), .fnc (.func f) (caps.map .u)] (· = .u (.int .i64 (Pm.idx p l))) := by
  (refine Fun.of_body Try.func38 rfl (by simp) fun Γ hn => ?_); simp only [entry, List.zipIdx_cons, List.zipIdx_nil, List.map_cons, List.map_nil, Nat.zero_add, Try.ntmps38]
  simp only [ints]
  refine V_len (x := 0) rfl fun hl => ?_
  simp at hl
  repeat' (first
    | (refine H_cons ?_; simp)
    | (refine H_nil ?_)
    | (refine HD_nil ?_)
    | (refine HD_cons ?_; simp)
    | (refine HD_guardU rfl (by simp) ?_; simp)
    | (refine HD_guard rfl (by simp) (fun hc => ?_) (fun hc => ?_) <;> (try simp at hc) <;> (try (exfalso; omega)) <;> (try simp))
    | (refine V_seq ?_)
    | (refine V_region1 fun k hk => ?_; simp)
    | (refine V_drawV rfl (by kernel_rfl) (by kernel_rfl) fun k hk => ?_; simp)
    | (refine V_drawE rfl (by kernel_rfl) (by kernel_rfl) (by simp [hn]) fun C k hC hk => ?_; simp)
    | (refine HD2_nil (hC _ (by kernel_rfl)) (hk _ ?_); clear hC hk C k)
    | (refine HD2_val rfl ?_; simp)
    | (refine HD2_chg rfl ?_; simp)
    | (refine HD2_guardU rfl (by simp) ?_; simp)
    | (refine HD2_guard rfl (by simp) (fun hc => ?_) (fun hc => ?_) <;> (try simp at hc) <;> (try (exfalso; omega)) <;> (try simp))
    | (refine V_block ?_)
        | (refine V_ret ?_)
    | (refine V_exit ?_)
    | (refine V_skip ?_)
    | (refine R_seq ?_)
    | (refine R_seq_ret ?_)
    | (refine R_seq_exit ?_)
    | (refine R_blk_ret ?_)
    | (refine R_blk ?_)
    | (refine R_blk_exit ?_)
    | (refine R_blk_other (by decide) ?_)
    | (refine R_loop_ret ?_)
    | (refine R_loop_exit ?_)
    | (refine R_loop ?_)
    | (refine R_done ?_)
    | (refine hk _ ?_; clear hk k)
    | (refine ⟨by omega, ?_⟩)
    | (refine ⟨?_, by omega⟩)
    | (refine ⟨fun hc => ?_, fun hc => ?_⟩ <;> (try (exfalso; omega)))
    | (refine V_cond rfl (fun hc => ?_) (fun hc => ?_) <;> (try simp at hc) <;> (try (exfalso; omega)))
    | (intro hc <;> (try (exfalso; omega))))
  refine V_loop (α := { i : Nat // i ≤ l.length ∧ ∀ j y, j < i → l[j]? = some y → p y = false })
    (fun i => { n := 19, env := [(0, .u (.sl (l.map fun n => [.int .i64 n]))), (1, .fnc (.func f) (caps.map .u)), (7, .u (.int .i64 l.length)), (8, .u (.int .i64 i.1))], obs := [], next := 0 })
    (fun i => l.length - i.1) ⟨0, by omega, by omega⟩ (fun i => i) ?_ ?_
  · (refine St.le_of rfl ?_ ?_ ?_ ?_ <;> simp [leEnv, leObs, leL, D.le, D.ren, D.under, hn])
  rintro ⟨i, hi, hb⟩
  rcases hx : l[i]? with _ | n
  · have hge : l.length ≤ i := by simpa using hx
    repeat' (first
    | (refine H_cons ?_; simp [hx])
    | (refine H_nil ?_)
    | (refine HD_nil ?_)
    | (refine HD_cons ?_; simp [hx])
    | (refine HD_guardU rfl (by simp [hx]) ?_; simp [hx])
    | (refine HD_guard rfl (by simp [hx]) (fun hc => ?_) (fun hc => ?_) <;> (try simp [hx] at hc) <;> (try (exfalso; omega)) <;> (try simp [hx]))
    | (refine V_seq ?_)
    | (refine V_region1 fun k hk => ?_; simp [hx])
    | (refine V_drawV rfl (by kernel_rfl) (by kernel_rfl) fun k hk => ?_; simp [hx])
    | (refine V_drawE rfl (by kernel_rfl) (by kernel_rfl) (by simp [hn]) fun C k hC hk => ?_; simp [hx])
    | (refine HD2_nil (hC _ (by kernel_rfl)) (hk _ ?_); clear hC hk C k)
    | (refine HD2_val rfl ?_; simp [hx])
    | (refine HD2_chg rfl ?_; simp [hx])
    | (refine HD2_guardU rfl (by simp [hx]) ?_; simp [hx])
    | (refine HD2_guard rfl (by simp [hx]) (fun hc => ?_) (fun hc => ?_) <;> (try simp [hx] at hc) <;> (try (exfalso; omega)) <;> (try simp [hx]))
    | (refine V_block ?_)
        | (refine V_ret ?_)
    | (refine V_exit ?_)
    | (refine V_skip ?_)
    | (refine R_seq ?_)
    | (refine R_seq_ret ?_)
    | (refine R_seq_exit ?_)
    | (refine R_blk_ret ?_)
    | (refine R_blk ?_)
    | (refine R_blk_exit ?_)
    | (refine R_blk_other (by decide) ?_)
    | (refine R_loop_ret ?_)
    | (refine R_loop_exit ?_)
    | (refine R_loop ?_)
    | (refine R_done ?_)
    | (refine hk _ ?_; clear hk k)
    | (refine ⟨by omega, ?_⟩)
    | (refine ⟨?_, by omega⟩)
    | (refine ⟨fun hc => ?_, fun hc => ?_⟩ <;> (try (exfalso; omega)))
    | (refine V_cond rfl (fun hc => ?_) (fun hc => ?_) <;> (try simp [hx] at hc) <;> (try (exfalso; omega)))
    | (intro hc <;> (try (exfalso; omega))))
    (refine EndOK.val (.inr rfl) ?_; simp [resD, oneOrTup, pureD, Try.results38])
    refine (Pm.idx_none fun x hm => ?_).symm
    obtain ⟨j, hj⟩ := List.getElem?_of_mem hm
    exact hb j x (by have := (List.getElem?_eq_some_iff.1 hj).1; omega) hj
  · have hlt : i < l.length := (List.getElem?_eq_some_iff.1 hx).1
    have h1 := hf n (List.mem_of_getElem? hx)
    repeat' (first
    | (first | (refine CallV.fun_ (h1) (by rfl) (by first | assumption | (simp; done) | fail) (by first | (simp [hx, hca]; done) | (simp [hx, hca]; rfl)) (by first | (simp; done) | fail) ?_ <;> (try simp [hx, hca])) | (refine CallP.fun_ (h1) (by rfl) (by first | assumption | (simp; done) | fail) (by first | (simp [hx, hca]; done) | (simp [hx, hca]; rfl)) (by first | (simp; done) | fail) (fun d hd => ?_); subst hd; (try simp [hx, hca])))
    | (refine H_cons ?_; simp [hx, hca])
    | (refine H_nil ?_)
    | (refine HD_nil ?_)
    | (refine HD_cons ?_; simp [hx, hca])
    | (refine HD_guardU rfl (by simp [hx, hca]) ?_; simp [hx, hca])
    | (refine HD_guard rfl (by simp [hx, hca]) (fun hc => ?_) (fun hc => ?_) <;> (try simp [hx, hca] at hc) <;> (try (exfalso; omega)) <;> (try simp [hx, hca]))
    | (refine V_seq ?_)
    | (refine V_region1 fun k hk => ?_; simp [hx, hca])
    | (refine V_drawV rfl (by kernel_rfl) (by kernel_rfl) fun k hk => ?_; simp [hx, hca])
    | (refine V_drawE rfl (by kernel_rfl) (by kernel_rfl) (by simp [hn]) fun C k hC hk => ?_; simp [hx, hca])
    | (refine HD2_nil (hC _ (by kernel_rfl)) (hk _ ?_); clear hC hk C k)
    | (refine HD2_val rfl ?_; simp [hx, hca])
    | (refine HD2_chg rfl ?_; simp [hx, hca])
    | (refine HD2_guardU rfl (by simp [hx, hca]) ?_; simp [hx, hca])
    | (refine HD2_guard rfl (by simp [hx, hca]) (fun hc => ?_) (fun hc => ?_) <;> (try simp [hx, hca] at hc) <;> (try (exfalso; omega)) <;> (try simp [hx, hca]))
    | (refine V_block ?_)
        | (refine V_ret ?_)
    | (refine V_exit ?_)
    | (refine V_skip ?_)
    | (refine R_seq ?_)
    | (refine R_seq_ret ?_)
    | (refine R_seq_exit ?_)
    | (refine R_blk_ret ?_)
    | (refine R_blk ?_)
    | (refine R_blk_exit ?_)
    | (refine R_blk_other (by decide) ?_)
    | (refine R_loop_ret ?_)
    | (refine R_loop_exit ?_)
    | (refine R_loop ?_)
    | (refine R_done ?_)
    | (refine hk _ ?_; clear hk k)
    | (refine ⟨by omega, ?_⟩)
    | (refine ⟨?_, by omega⟩)
    | (refine ⟨fun hc => ?_, fun hc => ?_⟩ <;> (try (exfalso; omega)))
    | (refine V_cond rfl (fun hc => ?_) (fun hc => ?_) <;> (try simp [hx, hca] at hc) <;> (try (exfalso; omega)))
    | (intro hc <;> (try (exfalso; omega))))
    · (refine EndOK.val (.inr rfl) ?_; simp [resD, oneOrTup, pureD, Try.results38])
      exact (Pm.idx_at hx (by assumption) hb).symm
    · have hb' : ∀ j y, j < i + 1 → l[j]? = some y → p y = false := fun j y hj hy => by
        by_cases hji : j = i
        · subst hji; rw [hx] at hy; cases hy; assumption
        · exact hb j y (by omega) hy
      refine LoopI.next ?y (fun i => i) ?h1 ?h2
      case y => exact ⟨i + 1, by omega, hb'⟩
      case h1 => simp; omega
      case h2 => (refine St.le_of rfl ?_ ?_ ?_ ?_ <;> simp [leEnv, leObs, leL, D.le, D.ren, D.under, hn])
end Go.Proofs.Ytblmompdcammeaa
