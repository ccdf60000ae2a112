/- Units of expressions; shares. -/
import Derived.Test.YtehlmagdlkcifaaUf
set_option linter.all false
set_option maxRecDepth 100000
set_option maxHeartbeats 8000000
namespace Go.Proofs.Ytehlmagdlkcifaa
open Go Go.VL
attribute [local simp] hcons hstep evPure opd uOf putOK St.put St.at getK binD binI binS binB nilD aggD eqUs cmpK lookD lookR rangeD nextD entryD keyD valU keyU lookK mkV entD_nil lookK_entD updK_entD1 updK_entD2 updK_entD3 allUE allUE_entD makeMapD mapUpdD mapEff updK valM Key.kk shiftI arith unD convD pickD loadD cellsAt fieldAddrD fieldD indexAddrD indexD sliceD cutD lenD minmaxD nilCheckD buildD fillD cellsD isOne ones setAll mkAgg allU allocD boxD storeD St.add buildSliceD appendD rowsOf makeD setOb getK_setOb getK_del getK_cons stripL strip guardTmp entry chunks zcells valD argsV argsW argW argU1 argU0 argsU0 argsU1 calleeOf scalarD scalarU delAll effD St.effS RK_seq RK_seq_ret RK_seq_exit RK_blk RK_blk_ret RK_blk_exit RK_loop RK_loop_ret RK_loop_exit RK_done vs_seq vs_block vs_skip vs_label vs_exit vs_ret vs_cond vs_region vs_loop vs_draw vs_range vs_scope applyW mkD rdIds lentIds callOf calleeOf freeOp D.ids Op.operands Call.operands isEffOp IntKind.bits allU2 allU2_append List.take_of_length_le List.range_succ
attribute [local irreducible] V G H HD HD2 RunK Eff CallP CallV EndOK Fun Ret FinOK LoopI LoopW EndW
-- lists that tell what a name means
def asc {β : Type} : List (List UInt8 × β) → List UInt8 → Option β
  | [], _ => none
  | (k, b) :: l, x => if x = k then some b else asc l x
def ascPut {β : Type} : List (List UInt8 × β) → List UInt8 → β → List (List UInt8 × β)
  | [], x, b => [(x, b)]
  | (k, c) :: l, x, b => if x = k then (k, b) :: l else (k, c) :: ascPut l x b
theorem lookK_asc {β : Type} (f : β → List U) (x : List UInt8) : ∀ (l : List (List UInt8 × β)), lookK (l.map fun p => (Key.s p.1, f p.2)) (.s x) = (asc l x).map f
  | [] => rfl
  | (k, b) :: l => by
    simp only [List.map_cons, lookK, asc, Key.s.injEq]
    split
    · rfl
    · exact lookK_asc f x l
theorem updK_asc {β : Type} (f : β → List U) (x : List UInt8) (b : β) : ∀ (l : List (List UInt8 × β)), updK (l.map fun p => (Key.s p.1, f p.2)) (.s x) (f b) = (ascPut l x b).map fun p => (Key.s p.1, f p.2)
  | [] => rfl
  | (k, c) :: l => by
    simp only [List.map_cons, updK, ascPut, Key.s.injEq]
    split
    · rfl
    · simp only [List.map_cons]; rw [updK_asc f x b l]
theorem asc_put {β : Type} (x y : List UInt8) (b : β) : ∀ (l : List (List UInt8 × β)), asc (ascPut l x b) y = if y = x then some b else asc l y
  | [] => by simp [ascPut, asc]
  | (k, c) :: l => by
    simp only [ascPut]
    split
    · rename_i h
      subst h
      simp only [asc]
      split <;> rfl
    · rename_i h
      simp only [asc, asc_put x y b l]
      by_cases h1 : y = k
      · subst h1; simp [Ne.symm h]
      · simp [h1]
mutual
/-- The unit of an expression, or an error. -/
def unitS (g : List UInt8 → Option Int) (m : List UInt8 → Option (Int × Int)) : Exp → Int × Int
  | .mk op _ u s args =>
    if op = 0 then (u, 0)
    else if op = 1 then (match g s with | some u => (u, 0) | none => match m s with | some r => r | none => (0, 13))
    else match unitsS g m args with
      | .error b => (0, b)
      | .ok l => if (combS op l).2 = true then ((combS op l).1, 0) else (0, 14)
def unitsS (g : List UInt8 → Option Int) (m : List UInt8 → Option (Int × Int)) : List Exp → Except Int (List Int)
  | [] => .ok []
  | e :: r => if (unitS g m e).2 ≠ 0 then .error (unitS g m e).2 else match unitsS g m r with
    | .error b => .error b
    | .ok l => .ok ((unitS g m e).1 :: l)
end
theorem unitS_eq (g m) (e : Exp) : unitS g m e = if e.op = 0 then (e.unit, 0)
    else if e.op = 1 then (match g e.s with | some u => (u, 0) | none => match m e.s with | some r => r | none => (0, 13))
    else match unitsS g m e.args with
      | .error b => (0, b)
      | .ok l => if (combS e.op l).2 = true then ((combS e.op l).1, 0) else (0, 14) := by
  cases e with | mk op n u s args => rw [unitS]; rfl
theorem unitsS_ok {g m} : ∀ {l : List Exp}, (∀ x ∈ l, (unitS g m x).2 = 0) → unitsS g m l = .ok (l.map fun x => (unitS g m x).1)
  | [], _ => by rw [unitsS]; rfl
  | e :: r, h => by
    rw [unitsS, if_neg (by simp [h e (by simp)]), unitsS_ok fun x hx => h x (by simp [hx])]
    rfl
theorem unitsS_err {g m} : ∀ {l : List Exp} {i : Nat} {e : Exp}, l[i]? = some e → (∀ x ∈ l.take i, (unitS g m x).2 = 0) → (unitS g m e).2 ≠ 0 → unitsS g m l = .error (unitS g m e).2
  | [], i, e, h, _, _ => by simp at h
  | a :: r, 0, e, h, _, h2 => by
    simp at h
    subst h
    rw [unitsS, if_pos h2]
  | a :: r, i + 1, e, h, h1, h2 => by
    rw [unitsS, if_neg (by simp [h1 a (by simp)]), unitsS_err (l := r) (i := i) (by simpa using h) (fun x hx => h1 x (by simp [hx])) h2]
mutual
/-- Whether an expression is a share. -/
def shareS (m : List UInt8 → Bool) : Exp → Bool
  | .mk op _ u s args =>
    if op = 0 then decide (u = 4)
    else if op = 1 then m s
    else if op = 2 ∨ op = 3 ∨ op = 6 ∨ op = 7 then shareN m args 0
    else if op = 4 then shareN m args 0 && shareN m args 1
    else if op = 13 then shareN m args 1
    else false
def shareN (m : List UInt8 → Bool) : List Exp → Nat → Bool
  | [], _ => false
  | e :: _, 0 => shareS m e
  | _ :: r, n + 1 => shareN m r n
end
theorem shareN_at {m} : ∀ {l : List Exp} {i : Nat} {e : Exp}, l[i]? = some e → shareN m l i = shareS m e
  | [], _, _, h => by simp at h
  | a :: r, 0, e, h => by simp at h; subst h; rw [shareN]
  | a :: r, i + 1, e, h => by rw [shareN]; exact shareN_at (by simpa using h)
theorem shareS_eq (m) (e : Exp) : shareS m e = if e.op = 0 then decide (e.unit = 4)
    else if e.op = 1 then m e.s
    else if e.op = 2 ∨ e.op = 3 ∨ e.op = 6 ∨ e.op = 7 then shareN m e.args 0
    else if e.op = 4 then shareN m e.args 0 && shareN m e.args 1
    else if e.op = 13 then shareN m e.args 1
    else false := by
  cases e with | mk op n u s args => rw [shareS]; rfl
/-- What is known of a let: its unit, its error, whether it is a share. -/
abbrev LM := List (List UInt8 × Int × Int × Bool)
abbrev GM := List (List UInt8 × Int)
def gmap (g : GM) : List (Key × List U) := g.map fun p => (Key.s p.1, [U.int .i64 p.2])
def lmap (m : LM) : List (Key × List U) := m.map fun p => (Key.s p.1, [U.int .i64 p.2.1, .int .i64 p.2.2.1, .bool p.2.2.2])
theorem look_g (g : GM) (x : List UInt8) : lookK (gmap g) (.s x) = (asc g x).map fun u => [U.int .i64 u] := lookK_asc (fun u : Int => [U.int .i64 u]) x g
theorem look_m (g : LM) (x : List UInt8) : lookK (lmap g) (.s x) = (asc g x).map fun q => [U.int .i64 q.1, .int .i64 q.2.1, .bool q.2.2] := lookK_asc (fun q : Int × Int × Bool => [U.int .i64 q.1, .int .i64 q.2.1, .bool q.2.2]) x g
def jU (g : GM) (m : LM) : U := .row [.map .s false (gmap g), .map .s true (lmap m)] 0
def gF (g : GM) : List UInt8 → Option Int := asc g
def mF (m : LM) : List UInt8 → Option (Int × Int) := fun x => (asc m x).map fun q => (q.1, q.2.1)
def sF (m : LM) : List UInt8 → Bool := fun x => ((asc m x).map fun q => q.2.2).getD false
theorem right_args {d : Nat} {e : Exp} (h : rightB (d + 1) e = true) : (e.args.length : Int) = operandsI e.op ∧ 0 ≤ e.op ∧ e.op < 14 ∧ (e.op ≠ 0 → e.op ≠ 1 → ∀ x ∈ e.args, rightB d x = true) := by
  rw [rightB, Bool.and_eq_true, decide_eq_true_eq] at h
  obtain ⟨h1, h2⟩ := h
  have h3 : 0 ≤ e.op ∧ e.op < 14 := by
    unfold operandsI at h1
    split at h1
    · omega
    · split at h1
      · omega
      · split at h1
        · omega
        · split at h1
          · omega
          · omega
  refine ⟨h1, h3.1, h3.2, fun ha hb x hx => ?_⟩
  rw [if_neg ha] at h2
  split at h2
  · cases h2
  · simp only [if_neg hb, Bool.and_eq_true, Bool.not_eq_true', List.any_eq_false, Bool.not_eq_true] at h2
    have := h2.2 x hx
    simpa using this
theorem unit_fun (g : GM) (m : LM) : ∀ (d : Nat) (e : Exp), rightB d e = true → Fun Try.prog 35 [.u (jU g m), eagg e] (· = .tup [.u (.int .i64 (unitS (gF g) (mF m) e).1), .u (.int .i64 (unitS (gF g) (mF m) e).2)])
  | 0, e, h => by simp [rightB] at h
  | d + 1, e, h => by
    obtain ⟨h1, h2, h3, h4⟩ := right_args h
    have hg := look_g g e.s
    have hm := look_m m e.s
    by_cases h0 : e.op = 0
    · rw [unitS_eq, if_pos h0]
      (refine Fun.of_body Try.func35 rfl (by simp) fun Γ hn => ?_); simp only [entry, List.zipIdx_cons, List.zipIdx_nil, List.map_cons, List.map_nil, Nat.zero_add, Try.ntmps35]
      simp only [eagg, jU]
      repeat' (first
    | (refine H_cons ?_; simp [h0])
    | (refine H_nil ?_; simp [h0])
    | (refine V_sseq ?_; simp [h0])
    | (refine V_scond ?_; simp [h0])
    | (refine V_sblock ?_; simp [h0])
    | (refine V_ret ?_; simp only [RK_seq, RK_seq_ret, RK_seq_exit, RK_blk, RK_blk_ret, RK_blk_exit, RK_loop, RK_loop_ret, RK_loop_exit, RK_done])
    | fail)
      (refine EndOK.val (.inr rfl) ?_; simp [resD, oneOrTup, pureD, Try.results35])
    by_cases hnm : e.op = 1
    · rw [unitS_eq, if_neg h0, if_pos hnm]
      (refine Fun.of_body Try.func35 rfl (by simp) fun Γ hn => ?_); simp only [entry, List.zipIdx_cons, List.zipIdx_nil, List.map_cons, List.map_nil, Nat.zero_add, Try.ntmps35]
      simp only [eagg, jU]
      cases hga : asc g e.s with
      | some u =>
        rw [hga] at hg
        simp only [Option.map_some] at hg
        repeat' (first
    | (refine H_cons ?_; simp [h0, hnm, hg])
    | (refine HD_cons ?_; simp [h0, hnm, hg])
    | (refine H_nil ?_; simp [h0, hnm, hg])
    | (refine V_sseq ?_; simp [h0, hnm, hg])
    | (refine V_scond ?_; simp [h0, hnm, hg])
    | (refine HD_nil ?_)
    | (refine hk _ ?_; clear hk k; simp only [RK_seq, RK_seq_ret, RK_seq_exit, RK_blk, RK_blk_ret, RK_blk_exit, RK_loop, RK_loop_ret, RK_loop_exit, RK_done])
    | (refine V_drawV rfl (by kernel_rfl) (by kernel_rfl) fun k hk => ?_; simp [h0, hnm, hg])
    | (refine V_sblock ?_; simp [h0, hnm, hg])
    | (refine V_ret ?_; simp only [RK_seq, RK_seq_ret, RK_seq_exit, RK_blk, RK_blk_ret, RK_blk_exit, RK_loop, RK_loop_ret, RK_loop_exit, RK_done])
    | fail)
        (refine EndOK.val (.inr rfl) ?_; simp [resD, oneOrTup, pureD, Try.results35])
        simp [gF, hga]
      | none =>
        rw [hga] at hg
        simp only [Option.map_none] at hg
        cases hma : asc m e.s with
        | some q =>
          rw [hma] at hm
          simp only [Option.map_some] at hm
          repeat' (first
    | (refine H_cons ?_; simp [h0, hnm, hg, hm])
    | (refine HD2_val rfl ?_; simp [h0, hnm, hg, hm])
    | (refine HD_cons ?_; simp [h0, hnm, hg, hm])
    | (refine HD2_chg rfl ?_; simp [h0, hnm, hg, hm])
    | (refine H_nil ?_; simp [h0, hnm, hg, hm])
    | (refine V_sseq ?_; simp [h0, hnm, hg, hm])
    | (refine V_scond ?_; simp [h0, hnm, hg, hm])
    | (refine HD2_nil (hC _ (by kernel_rfl)) (hk _ ?_); clear hC hk C k; simp only [RK_seq, RK_seq_ret, RK_seq_exit, RK_blk, RK_blk_ret, RK_blk_exit, RK_loop, RK_loop_ret, RK_loop_exit, RK_done])
    | (refine HD_nil ?_)
    | (refine hk _ ?_; clear hk k; simp only [RK_seq, RK_seq_ret, RK_seq_exit, RK_blk, RK_blk_ret, RK_blk_exit, RK_loop, RK_loop_ret, RK_loop_exit, RK_done])
    | (refine V_drawV rfl (by kernel_rfl) (by kernel_rfl) fun k hk => ?_; simp [h0, hnm, hg, hm])
    | (refine V_drawE rfl (by kernel_rfl) (by kernel_rfl) (by simp [hn]) fun C k hC hk => ?_; simp [h0, hnm, hg, hm])
    | (refine V_sblock ?_; simp [h0, hnm, hg, hm])
    | (refine V_ret ?_; simp only [RK_seq, RK_seq_ret, RK_seq_exit, RK_blk, RK_blk_ret, RK_blk_exit, RK_loop, RK_loop_ret, RK_loop_exit, RK_done])
    | (refine V_skip ?_; simp only [RK_seq, RK_seq_ret, RK_seq_exit, RK_blk, RK_blk_ret, RK_blk_exit, RK_loop, RK_loop_ret, RK_loop_exit, RK_done])
    | fail)
          (refine EndOK.val (.inr rfl) ?_; simp [resD, oneOrTup, pureD, Try.results35])
          simp [gF, hga, mF, hma]
        | none =>
          rw [hma] at hm
          simp only [Option.map_none] at hm
          repeat' (first
    | (refine H_cons ?_; simp [h0, hnm, hg, hm])
    | (refine HD2_val rfl ?_; simp [h0, hnm, hg, hm])
    | (refine HD_cons ?_; simp [h0, hnm, hg, hm])
    | (refine HD2_chg rfl ?_; simp [h0, hnm, hg, hm])
    | (refine H_nil ?_; simp [h0, hnm, hg, hm])
    | (refine V_sseq ?_; simp [h0, hnm, hg, hm])
    | (refine V_scond ?_; simp [h0, hnm, hg, hm])
    | (refine HD2_nil (hC _ (by kernel_rfl)) (hk _ ?_); clear hC hk C k; simp only [RK_seq, RK_seq_ret, RK_seq_exit, RK_blk, RK_blk_ret, RK_blk_exit, RK_loop, RK_loop_ret, RK_loop_exit, RK_done])
    | (refine HD_nil ?_)
    | (refine hk _ ?_; clear hk k; simp only [RK_seq, RK_seq_ret, RK_seq_exit, RK_blk, RK_blk_ret, RK_blk_exit, RK_loop, RK_loop_ret, RK_loop_exit, RK_done])
    | (refine V_drawV rfl (by kernel_rfl) (by kernel_rfl) fun k hk => ?_; simp [h0, hnm, hg, hm])
    | (refine V_drawE rfl (by kernel_rfl) (by kernel_rfl) (by simp [hn]) fun C k hC hk => ?_; simp [h0, hnm, hg, hm])
    | (refine V_sblock ?_; simp [h0, hnm, hg, hm])
    | (refine V_ret ?_; simp only [RK_seq, RK_seq_ret, RK_seq_exit, RK_blk, RK_blk_ret, RK_blk_exit, RK_loop, RK_loop_ret, RK_loop_exit, RK_done])
    | (refine V_skip ?_; simp only [RK_seq, RK_seq_ret, RK_seq_exit, RK_blk, RK_blk_ret, RK_blk_exit, RK_loop, RK_loop_ret, RK_loop_exit, RK_done])
    | fail)
          (refine EndOK.val (.inr rfl) ?_; simp [resD, oneOrTup, pureD, Try.results35])
          simp [gF, hga, mF, hma]
    rw [unitS_eq, if_neg h0, if_neg hnm]
    (refine Fun.of_body Try.func35 rfl (by simp) fun Γ hn => ?_); simp only [entry, List.zipIdx_cons, List.zipIdx_nil, List.map_cons, List.map_nil, Nat.zero_add, Try.ntmps35]
    simp only [eagg, jU]
    have hr := h4 h0 hnm
    repeat' (first
    | (refine H_cons ?_; simp [h0, hnm])
    | (refine H_nil ?_; simp [h0, hnm])
    | (refine V_sseq ?_; simp [h0, hnm])
    | (refine V_scond ?_; simp [h0, hnm])
    | (refine V_sblock ?_; simp [h0, hnm])
    | (refine V_skip ?_; simp only [RK_seq, RK_seq_ret, RK_seq_exit, RK_blk, RK_blk_ret, RK_blk_exit, RK_loop, RK_loop_ret, RK_loop_exit, RK_done])
    | fail)
    refine V_wk _ (Wk.own 10 3 1 (by decide) rfl) ?_
    simp [St.own]
    refine V_loopO (α := { p : Nat × List Int // p.1 ≤ e.args.length ∧ p.2 = (e.args.take p.1).map (fun x => (unitS (gF g) (mF m) x).1) ∧ ∀ x ∈ e.args.take p.1, (unitS (gF g) (mF m) x).2 = 0 }) [0, 3, 53, 54]
      (fun p => [(10, .vec 1 p.1.2.length), (55, .u (.int .i64 p.1.1))]) (fun p => [(1, .vec 3 1 (rowsD (p.1.2.map fun n => [U.int .i64 n]))), (0, .box [.u (.int .i64 e.op), .u (.int .i64 e.n), .u (.int .i64 e.unit), .u (.str e.s), .u (.sl (e.args.map Exp.row))])]) 2
      (fun p => e.args.length - p.1.1) ⟨(0, []), by simp, by simp, by simp⟩ ?_ ?_
    · exact (Wk.cut rfl (by simp [hn]) (by simp [wkO, St.lp, getK_cons, getK, Ob.under, D.under, under_rowsD, under_entD]) (by simp [wkU, St.lp, keepE, getK_cons, getK, D.under]) (by simp [wkE, St.lp, keepE, getK_cons, getK] <;> (try (intros; simp_all; done)) <;> (try (intros; omega)) <;> (try grind)))
    rintro ⟨⟨i, acc⟩, hi, hacc, hb⟩
    simp only at hi hacc hb
    simp [St.lp, St.only, keepE, getK_cons, getK]
    rcases hx : e.args[i]? with _ | x
    · have hge : e.args.length ≤ i := by simpa using hx
      rw [List.take_of_length_le hge] at hacc hb
      have hok := unitsS_ok hb
      rw [← hacc] at hok
      have hal : (acc.length : Int) = operandsI e.op := by rw [hacc]; simpa using h1
      have h5 := comb_fun e.op acc (by omega) hal
      simp only [ints] at h5
      generalize hcb : combS e.op acc = cb at h5
      obtain ⟨c1, c2⟩ := cb
      repeat' (first
    | (refine H_cons ?_; simp [hx, h0, hnm])
    | (refine H_nil ?_; simp [hx, h0, hnm])
    | (refine ⟨by omega, ?_⟩)
    | (refine V_sseq ?_; simp [hx, h0, hnm])
    | (refine V_scond ?_; simp [hx, h0, hnm])
    | (refine V_ret ?_; simp only [RK_seq, RK_seq_ret, RK_seq_exit, RK_blk, RK_blk_ret, RK_blk_exit, RK_loop, RK_loop_ret, RK_loop_exit, RK_done])
    | (refine V_skip ?_; simp only [RK_seq, RK_seq_ret, RK_seq_exit, RK_blk, RK_blk_ret, RK_blk_exit, RK_loop, RK_loop_ret, RK_loop_exit, RK_done])
    | (refine V_exit ?_; simp [RK_seq, RK_seq_ret, RK_seq_exit, RK_blk, RK_blk_ret, RK_blk_exit, RK_loop, RK_loop_ret, RK_loop_exit, RK_done])
    | (refine ⟨fun hc => ?_, fun hc => ?_⟩ <;> (try (exfalso; omega)))
    | (intro hc <;> (try (exfalso; omega)))
    | (refine CallP.fun_ (h5) (by first | rfl | fail) (by first | assumption | (simp; done) | fail) (by first | (simp [hx, h0, hnm]; done) | (simp [hx, h0, hnm]; rfl) | fail) (by first | (simp; done) | fail) (fun d hd => ?_); subst hd; (try simp [hx, h0, hnm]))
    | fail)
      all_goals
        (refine EndOK.val (.inr rfl) ?_; simp [resD, oneOrTup, pureD, Try.results35])
      all_goals (rw [hok]; simp_all; done)
    · have hlt : i < e.args.length := (List.getElem?_eq_some_iff.1 hx).1
      have h5 := unit_fun g m d x (hr x (List.mem_of_getElem? hx))
      simp only [eagg, jU] at h5
      have hal : acc.length = i := by rw [hacc]; simp; omega
      have h3a : e.args.length ≤ 3 := by
        have : operandsI e.op ≤ 3 := by unfold operandsI; repeat' split
                                        all_goals omega
        omega
      have her := fun h => unitsS_err (g := gF g) (m := mF m) hx hb h
      generalize hun : unitS (gF g) (mF m) x = un at h5 her
      obtain ⟨u, er⟩ := un
      repeat' (first
    | (refine H_cons ?_; simp [hx, x.row_eq, h0, hnm])
    | (refine H_nil ?_; simp [hx, x.row_eq, h0, hnm])
    | (refine ⟨by omega, ?_⟩)
    | (refine V_sseq ?_; simp [hx, x.row_eq, h0, hnm])
    | (refine V_scond ?_; simp [hx, x.row_eq, h0, hnm])
    | (refine V_sregion ?_; simp [hx, x.row_eq, h0, hnm])
    | (refine V_ret ?_; simp only [RK_seq, RK_seq_ret, RK_seq_exit, RK_blk, RK_blk_ret, RK_blk_exit, RK_loop, RK_loop_ret, RK_loop_exit, RK_done])
    | (refine V_skip ?_; simp only [RK_seq, RK_seq_ret, RK_seq_exit, RK_blk, RK_blk_ret, RK_blk_exit, RK_loop, RK_loop_ret, RK_loop_exit, RK_done])
    | (refine ⟨?_, by omega⟩)
    | (refine ⟨fun hc => ?_, fun hc => ?_⟩ <;> (try (exfalso; omega)))
    | (intro hc <;> (try (exfalso; omega)))
    | (refine CallP.fun_ (h5) (by first | rfl | fail) (by first | assumption | (simp; done) | fail) (by first | (simp [hx, x.row_eq, h0, hnm]; done) | (simp [hx, x.row_eq, h0, hnm]; rfl) | fail) (by first | (simp; done) | fail) (fun d hd => ?_); subst hd; (try simp [hx, x.row_eq, h0, hnm]))
    | fail)
      · (refine EndOK.val (.inr rfl) ?_; simp [resD, oneOrTup, pureD, Try.results35])
        rw [her (by simpa using (by assumption : ¬ er = 0))]
        simp
      · skip
        refine LoopW.next ⟨(i + 1, acc ++ [u]), (by omega : i + 1 ≤ e.args.length), (?_ : acc ++ [u] = _), ?_⟩ (by simp; omega) ?_
        · rw [List.take_succ_eq_append_getElem hlt, List.map_append, ← hacc, (List.getElem?_eq_some_iff.1 hx).2]
          simp [hun]
        · exact take_succ_all hx hb (by simp_all)
        · exact (Wk.ren ((fun i => if i = 1 then 4 else i)) rfl (by simp [hn]) (by simp [wkER, St.lp, keepE, getK_cons, getK, getK_del, getK_setOb, D.under, D.le, D.ren] <;> (try (intros; simp_all; done)) <;> (try omega)) (by simp [wkR, St.lp, getK_cons, getK, getK_del, getK_setOb, obR, leU, pureRow, pureRows, Ob.under, D.under, D.le, D.ren] <;> (try (intros; simp_all; done)) <;> (try omega)) (by simp))
end Go.Proofs.Ytehlmagdlkcifaa
