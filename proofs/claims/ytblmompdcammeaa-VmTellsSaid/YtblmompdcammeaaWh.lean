/- A step of the machine. -/
import Derived.Test.YtblmompdcammeaaWg
set_option linter.all false
namespace Go.Proofs.Ytblmompdcammeaa
open Go Go.VL
structure Mach where
  pc : Int
  stack : List Int
  en : Bool
  va : Int
  er : Int
  deriving DecidableEq
def okv (n : Int) : Bool := decide (-1099511627776 ≤ n ∧ n ≤ 1099511627776)
def Mach.fin (m : Mach) (v e : Int) : Mach := { m with stack := [], en := true, va := v, er := e }
def Mach.push (m : Mach) (x : Int) : Mach := if okv x then { m with pc := m.pc + 1, stack := m.stack ++ [x] } else m.fin 0 3
def Mach.drop (m : Mach) (k : Nat) : Mach := { m with stack := m.stack.take (m.stack.length - k) }
def Mach.top (m : Mach) (k : Nat) : Int := m.stack.getD (m.stack.length - 1 - k) 0
def stepI (vs : List Var) (m : Mach) (c : Ins) : Mach :=
  if c.op = 0 then m.push c.a
  else if c.op = 1 then match vs.find? fun v => decide (v.name = c.s) with | none => m.fin 0 13 | some v => m.push v.n
  else if c.op = 12 then { m with pc := c.a }
  else if c.op = 13 then { m.drop 1 with pc := if m.top 0 = 0 then c.a else m.pc + 1 }
  else if c.op = 14 then m.fin (m.top 0) 0
  else if c.op = 11 then (m.drop 1).push (Pm.truth (decide (m.top 0 = 0)))
  else if c.op = 5 ∧ m.top 0 = 0 then m.fin 0 15
  else (m.drop 2).push (Pm.two c.op (m.top 1) (m.top 0))
def stepM (code : List Ins) (vs : List Var) (m : Mach) : Mach :=
  if m.pc < 0 then m.fin 0 2 else match code[m.pc.toNat]? with
  | none => m.fin 0 2
  | some c => if c.op < 0 ∨ 15 ≤ c.op ∨ (m.stack.length : Int) < needs c.op ∨ (m.stack.any fun n => !okv n) = true then m.fin 0 2 else stepI vs m c
theorem stepM_eq {code : List Ins} {vs : List Var} {m : Mach} {c : Ins} (h : 0 ≤ m.pc) (hc : code[m.pc.toNat]? = some c) :
    stepM code vs m = if c.op < 0 ∨ 15 ≤ c.op ∨ (m.stack.length : Int) < needs c.op ∨ (m.stack.any fun n => !okv n) = true then m.fin 0 2 else stepI vs m c := by
  unfold stepM
  rw [if_neg (by omega), hc]
theorem idx_find (vs : List Var) (p : Var → Bool) : (Pm.idx p vs = -1 ∧ vs.find? p = none) ∨ ∃ (j : Nat) (v : Var), Pm.idx p vs = j ∧ vs[j]? = some v ∧ vs.find? p = some v := by
  unfold Pm.idx
  cases h : vs.findIdx? p with
  | none =>
    refine .inl ⟨rfl, ?_⟩
    rw [List.findIdx?_eq_none_iff] at h
    rw [List.find?_eq_none]
    intro x hx
    simp [h x hx]
  | some j =>
    rw [List.findIdx?_eq_some_iff_getElem] at h
    obtain ⟨hj, hp, hb⟩ := h
    refine .inr ⟨j, vs[j], rfl, List.getElem?_eq_getElem hj, ?_⟩
    rw [List.find?_eq_some_iff_getElem]
    exact ⟨hp, j, hj, rfl, fun k hk => by simpa using hb k hk⟩
def MOb (m : Mach) (o : List (Nat × Ob)) (nx : Nat) : Prop := MAt m.pc m.stack m.en m.va m.er o nx
attribute [local simp] hcons hstep evPure opd uOf putOK St.put St.at getK binD binI binS binB nilD aggD eqUs cmpK shiftI arith unD convD pickD loadD cellsAt fieldAddrD fieldD indexAddrD indexD sliceD cutD lenD minmaxD nilCheckD buildD fillD cellsD isOne ones setAll mkAgg allU allocD boxD storeD St.add buildSliceD appendD rowsOf makeD setOb getK_setOb getK_del getK_cons stripL strip guardTmp entry chunks zcells valD argsV argsW argW argU1 argU0 argsU0 argsU1 calleeOf scalarD scalarU delAll effD St.effS applyW mkD rdIds lentIds callOf calleeOf freeOp D.ids Op.operands Call.operands isEffOp IntKind.bits allU2 allU2_append List.take_of_length_le List.range_succ
attribute [local irreducible] V G H HD HD2 RunK Eff CallP CallV EndOK Fun Ret FinOK LoopI
theorem allU2_stk (l : List Int) : allU2 (stk l) = some (l.map fun n => [.int .i64 n]) := by
  have : stk l = (l.map fun n => [U.int .i64 n]).map (·.map D.u) := by simp [stk]
  rw [this, allU2_map]
theorem push_out (o : List (Nat × Ob)) (nx : Nat) (pc : Int) (sd : D) (en : Bool) (va er x : Int) (h0 : getK o 0 = some (mbox pc sd en va er)) (hx : okv x = false) :
    Ret Try.prog 28 [.ptr 0 0, .u (.int .i64 x)] o nx (fun _ o' n' => getK o' 0 = some (mbox pc (.u .nil) true 0 3) ∧ n' = nx) := by
  have hx' : (decide (-1099511627776 ≤ x ∧ x ≤ 1099511627776)) = false := hx
  have h1 := within_fun x
  rw [hx'] at h1
  (refine Ret.of_body Try.func28 rfl (by simp) fun Γ hn => ?_); simp only [entry, List.zipIdx_cons, List.zipIdx_nil, List.map_cons, List.map_nil, Nat.zero_add, Try.ntmps28]
  repeat' (first
    | (refine CallP.ret_ (end_ret o nx pc sd en va er _ _ h0) (by rfl) (by first | assumption | simp) (by rfl) (by simp) ?_; rintro d o n' hn' ⟨hg, rfl⟩; (try simp at hn'); (try simp))
    | (first | (refine CallV.fun_ (h1) (by rfl) (by first | assumption | (simp; done) | fail) (by first | (simp; done) | (simp; rfl)) (by first | (simp; done) | fail) ?_ <;> (try simp)) | (refine CallP.fun_ (h1) (by rfl) (by first | assumption | (simp; done) | fail) (by first | (simp; done) | (simp; rfl)) (by first | (simp; done) | fail) (fun d hd => ?_); subst hd; (try simp)))
    | (refine H_cons ?_; simp)
    | (refine H_nil ?_)
    | (refine HD_nil ?_)
    | (refine HD_cons ?_; simp)
    | (refine HD_guardU rfl (by simp) ?_; simp)
    | (refine HD_guard rfl (by simp) (fun hc => ?_) (fun hc => ?_) <;> (try simp at hc) <;> (try (exfalso; omega)) <;> (try simp))
    | (refine V_seq ?_)
    | (refine V_region1 fun k hk => ?_; simp)
    | (refine V_drawV rfl (by kernel_rfl) (by kernel_rfl) fun k hk => ?_; simp)
    | (refine V_drawE rfl (by kernel_rfl) (by kernel_rfl) (by simp [hn]) fun C k hC hk => ?_; simp)
    | (refine HD2_nil (hC _ (by kernel_rfl)) (hk _ ?_); clear hC hk C k)
    | (refine HD2_val rfl ?_; simp)
    | (refine HD2_chg rfl ?_; simp)
    | (refine HD2_guardU rfl (by simp) ?_; simp)
    | (refine HD2_guard rfl (by simp) (fun hc => ?_) (fun hc => ?_) <;> (try simp at hc) <;> (try (exfalso; omega)) <;> (try simp))
    | (refine V_block ?_)
        | (refine V_ret ?_)
    | (refine V_exit ?_)
    | (refine V_skip ?_)
    | (refine R_seq ?_)
    | (refine R_seq_ret ?_)
    | (refine R_seq_exit ?_)
    | (refine R_blk_ret ?_)
    | (refine R_blk ?_)
    | (refine R_blk_exit ?_)
    | (refine R_blk_other (by decide) ?_)
    | (refine R_loop_ret ?_)
    | (refine R_loop_exit ?_)
    | (refine R_loop ?_)
    | (refine R_done ?_)
    | (refine hk _ ?_; clear hk k)
    | (refine ⟨by omega, ?_⟩)
    | (refine ⟨?_, by omega⟩)
    | (refine ⟨fun hc => ?_, fun hc => ?_⟩ <;> (try (exfalso; omega)))
    | (refine V_cond rfl (fun hc => ?_) (fun hc => ?_) <;> (try simp at hc) <;> (try (exfalso; omega)))
    | (intro hc <;> (try (exfalso; omega))))
  (first | (refine EndOK.fin (.inr rfl) ?_) | (refine EndOK.fin (.inl rfl) ?_)); simp [resD, oneOrTup, Try.results28]
  refine FinOK.here (by simp) (by simpa using hg)
/-- A push, whatever the stack and the number. -/
theorem push_ret (m : Mach) (o : List (Nat × Ob)) (nx : Nat) (x : Int) (hnx : 0 < nx) (h : MOb m o nx) (hl : m.stack.length < 100000) (hp : m.pc < 9223372036854775807 ∧ -9223372036854775808 ≤ m.pc) :
    Ret Try.prog 28 [.ptr 0 0, .u (.int .i64 x)] o nx (fun _ o' n' => MOb (m.push x) o' n') := by
  obtain ⟨pc, st, en, va, er⟩ := m
  unfold Mach.push
  by_cases hx : okv x = true
  · have hx' : -1099511627776 ≤ x ∧ x ≤ 1099511627776 := by simpa [okv] using hx
    rw [if_pos hx]
    rcases h with ⟨h1, h2⟩ | ⟨i, r, h1, h2, h3, h4, h5⟩
    · simp only at h1
      subst h1
      exact push_nil o nx pc x en va er hnx h2 hx' hp
    · exact push_vec o nx pc st x en va er i r h1 h2 h4 h5 h3 hl hx' hp
  · rw [if_neg hx]
    have hx' : okv x = false := by simpa using hx
    have h0 : ∃ sd, getK o 0 = some (mbox pc sd en va er) := by
      rcases h with ⟨h1, h2⟩ | ⟨i, r, h1, h2, h3, h4, h5⟩
      · exact ⟨_, h2⟩
      · exact ⟨_, h4⟩
    obtain ⟨sd, h0⟩ := h0
    exact Ret.mono (push_out o nx pc sd en va er x h0 hx') fun d o' n' ⟨hg, _⟩ => .inl ⟨rfl, hg⟩
end Go.Proofs.Ytblmompdcammeaa
