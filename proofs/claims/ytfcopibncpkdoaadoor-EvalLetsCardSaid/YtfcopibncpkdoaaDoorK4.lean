/- Texts joined by a program of mine: Ug Uh Fa Fb Fc Fd Fe Ff Fg Fh Ea. -/
import Derived.Test.YtfcopibncpkdoaaDoorK3
set_option linter.all false
set_option maxRecDepth 100000
set_option maxHeartbeats 8000000
namespace Go.Proofs.YtfcopibncpkdoaaDoor
open Go Go.VL
attribute [local simp] hcons hstep evPure opd uOf putOK St.put St.at getK binD binI binS binB nilD aggD eqUs cmpK lookD lookR rangeD nextD entryD keyD valU keyU lookK mkV entD_nil lookK_entD updK_entD1 updK_entD3 allUE allUE_entD makeMapD mapUpdD mapEff updK valM Key.kk shiftI arith unD convD pickD loadD cellsAt fieldAddrD fieldD indexAddrD indexD sliceD cutD lenD minmaxD nilCheckD buildD fillD cellsD isOne ones setAll mkAgg allU allocD boxD storeD St.add buildSliceD appendD rowsOf makeD setOb getK_setOb getK_del getK_cons stripL strip guardTmp entry chunks zcells valD argsV argsW argW argU1 argU0 argsU0 argsU1 calleeOf scalarD scalarU delAll effD St.effS RK_seq RK_seq_ret RK_seq_exit RK_blk RK_blk_ret RK_blk_exit RK_loop RK_loop_ret RK_loop_exit RK_done vs_seq vs_block vs_cond vs_region vs_loop vs_draw applyW mkD rdIds lentIds callOf calleeOf freeOp D.ids Op.operands Call.operands isEffOp makeIfD typeAssertD conc concs conc1 uOfV panicD IntKind.bits allU2 allU2_append List.take_of_length_le List.range_succ
attribute [local irreducible] V G H HD HD2 RunK Eff CallP CallV EndOK Fun Ret FinOK LoopI LoopW EndW
def asc {β : Type} : List (List UInt8 × β) → List UInt8 → Option β
  | [], _ => none
  | (k, b) :: l, x => if x = k then some b else asc l x
def ascPut {β : Type} : List (List UInt8 × β) → List UInt8 → β → List (List UInt8 × β)
  | [], x, b => [(x, b)]
  | (k, c) :: l, x, b => if x = k then (k, b) :: l else (k, c) :: ascPut l x b
theorem lookK_asc {β : Type} (f : β → List U) (x : List UInt8) : ∀ (l : List (List UInt8 × β)), lookK (l.map fun p => (Key.s p.1, f p.2)) (.s x) = (asc l x).map f
  | [] => rfl
  | (k, b) :: l => by
    simp only [List.map_cons, lookK, asc, Key.s.injEq]
    split
    · rfl
    · exact lookK_asc f x l
theorem updK_asc {β : Type} (f : β → List U) (x : List UInt8) (b : β) : ∀ (l : List (List UInt8 × β)), updK (l.map fun p => (Key.s p.1, f p.2)) (.s x) (f b) = (ascPut l x b).map fun p => (Key.s p.1, f p.2)
  | [] => rfl
  | (k, c) :: l => by
    simp only [List.map_cons, updK, ascPut, Key.s.injEq]
    split
    · rfl
    · simp only [List.map_cons]; rw [updK_asc f x b l]
theorem asc_put {β : Type} (x y : List UInt8) (b : β) : ∀ (l : List (List UInt8 × β)), asc (ascPut l x b) y = if y = x then some b else asc l y
  | [] => by simp [ascPut, asc]
  | (k, c) :: l => by
    simp only [ascPut]
    split
    · rename_i h
      subst h
      simp only [asc]
      split <;> rfl
    · rename_i h
      simp only [asc, asc_put x y b l]
      by_cases h1 : y = k
      · subst h1; simp [Ne.symm h]
      · simp [h1]
mutual
/-- The unit of an expression, or an error. -/
def unitS (g : List UInt8 → Option Int) (m : List UInt8 → Option (Int × Int)) : Exp → Int × Int
  | .mk op _ u s args =>
    if op = 0 then (u, 0)
    else if op = 1 then (match g s with | some u => (u, 0) | none => match m s with | some r => r | none => (0, 13))
    else match unitsS g m args with
      | .error b => (0, b)
      | .ok l => if (combS op l).2 = true then ((combS op l).1, 0) else (0, 14)
def unitsS (g : List UInt8 → Option Int) (m : List UInt8 → Option (Int × Int)) : List Exp → Except Int (List Int)
  | [] => .ok []
  | e :: r => if (unitS g m e).2 ≠ 0 then .error (unitS g m e).2 else match unitsS g m r with
    | .error b => .error b
    | .ok l => .ok ((unitS g m e).1 :: l)
end
theorem unitS_eq (g m) (e : Exp) : unitS g m e = if e.op = 0 then (e.unit, 0)
    else if e.op = 1 then (match g e.s with | some u => (u, 0) | none => match m e.s with | some r => r | none => (0, 13))
    else match unitsS g m e.args with
      | .error b => (0, b)
      | .ok l => if (combS e.op l).2 = true then ((combS e.op l).1, 0) else (0, 14) := by
  cases e with | mk op n u s args => rw [unitS]; rfl
theorem unitsS_ok {g m} : ∀ {l : List Exp}, (∀ x ∈ l, (unitS g m x).2 = 0) → unitsS g m l = .ok (l.map fun x => (unitS g m x).1)
  | [], _ => by rw [unitsS]; rfl
  | e :: r, h => by
    rw [unitsS, if_neg (by simp [h e (by simp)]), unitsS_ok fun x hx => h x (by simp [hx])]
    rfl
theorem unitsS_err {g m} : ∀ {l : List Exp} {i : Nat} {e : Exp}, l[i]? = some e → (∀ x ∈ l.take i, (unitS g m x).2 = 0) → (unitS g m e).2 ≠ 0 → unitsS g m l = .error (unitS g m e).2
  | [], i, e, h, _, _ => by simp at h
  | a :: r, 0, e, h, _, h2 => by
    simp at h
    subst h
    rw [unitsS, if_pos h2]
  | a :: r, i + 1, e, h, h1, h2 => by
    rw [unitsS, if_neg (by simp [h1 a (by simp)]), unitsS_err (l := r) (i := i) (by simpa using h) (fun x hx => h1 x (by simp [hx])) h2]
mutual
/-- Whether an expression is a share. -/
def shareS (m : List UInt8 → Bool) : Exp → Bool
  | .mk op _ u s args =>
    if op = 0 then decide (u = 4)
    else if op = 1 then m s
    else if op = 2 ∨ op = 3 ∨ op = 6 ∨ op = 7 then shareN m args 0
    else if op = 4 then shareN m args 0 && shareN m args 1
    else if op = 13 then shareN m args 1
    else false
def shareN (m : List UInt8 → Bool) : List Exp → Nat → Bool
  | [], _ => false
  | e :: _, 0 => shareS m e
  | _ :: r, n + 1 => shareN m r n
end
theorem shareS_eq (m) (e : Exp) : shareS m e = if e.op = 0 then decide (e.unit = 4)
    else if e.op = 1 then m e.s
    else if e.op = 2 ∨ e.op = 3 ∨ e.op = 6 ∨ e.op = 7 then shareN m e.args 0
    else if e.op = 4 then shareN m e.args 0 && shareN m e.args 1
    else if e.op = 13 then shareN m e.args 1
    else false := by
  cases e with | mk op n u s args => rw [shareS]; rfl
/-- What is known of a let: its unit, its error, whether it is a share. -/
abbrev LM := List (List UInt8 × Int × Int × Bool)
abbrev GM := List (List UInt8 × Int)
def gmap (g : GM) : List (Key × List U) := g.map fun p => (Key.s p.1, [U.int .i64 p.2])
def lmap (m : LM) : List (Key × List U) := m.map fun p => (Key.s p.1, [U.int .i64 p.2.1, .int .i64 p.2.2.1, .bool p.2.2.2])
theorem look_g (g : GM) (x : List UInt8) : lookK (gmap g) (.s x) = (asc g x).map fun u => [U.int .i64 u] := lookK_asc (fun u : Int => [U.int .i64 u]) x g
theorem look_m (g : LM) (x : List UInt8) : lookK (lmap g) (.s x) = (asc g x).map fun q => [U.int .i64 q.1, .int .i64 q.2.1, .bool q.2.2] := lookK_asc (fun q : Int × Int × Bool => [U.int .i64 q.1, .int .i64 q.2.1, .bool q.2.2]) x g
def jU (g : GM) (m : LM) : U := .row [.map .s false (gmap g), .map .s true (lmap m)] 0
def gF (g : GM) : List UInt8 → Option Int := asc g
def mF (m : LM) : List UInt8 → Option (Int × Int) := fun x => (asc m x).map fun q => (q.1, q.2.1)
def sF (m : LM) : List UInt8 → Bool := fun x => ((asc m x).map fun q => q.2.2).getD false
theorem right_args {d : Nat} {e : Exp} (h : rightB (d + 1) e = true) : (e.args.length : Int) = operandsI e.op ∧ 0 ≤ e.op ∧ e.op < 14 ∧ (e.op ≠ 0 → e.op ≠ 1 → ∀ x ∈ e.args, rightB d x = true) := by
  rw [rightB, Bool.and_eq_true, decide_eq_true_eq] at h
  obtain ⟨h1, h2⟩ := h
  have h3 : 0 ≤ e.op ∧ e.op < 14 := by
    unfold operandsI at h1
    split at h1
    · omega
    · split at h1
      · omega
      · split at h1
        · omega
        · split at h1
          · omega
          · omega
  refine ⟨h1, h3.1, h3.2, fun ha hb x hx => ?_⟩
  rw [if_neg ha] at h2
  split at h2
  · cases h2
  · simp only [if_neg hb, Bool.and_eq_true, Bool.not_eq_true', List.any_eq_false, Bool.not_eq_true] at h2
    have := h2.2 x hx
    simpa using this
theorem unit_fun (g : GM) (m : LM) : ∀ (d : Nat) (e : Exp), rightB d e = true → Fun Tryd.prog 65 [.u (jU g m), eagg e] (· = .tup [.u (.int .i64 (unitS (gF g) (mF m) e).1), .u (.int .i64 (unitS (gF g) (mF m) e).2)])
  | 0, e, h => by simp [rightB] at h
  | d + 1, e, h => by
    obtain ⟨h1, h2, h3, h4⟩ := right_args h
    have hg := look_g g e.s
    have hm := look_m m e.s
    by_cases h0 : e.op = 0
    · rw [unitS_eq, if_pos h0]
      (refine Fun.of_body Tryd.func65 rfl (by simp) fun Γ hn => ?_); simp only [entry, List.zipIdx_cons, List.zipIdx_nil, List.map_cons, List.map_nil, Nat.zero_add, Tryd.ntmps65]
      simp only [eagg, jU]
      repeat' (first
    | (refine H_cons ?_; simp [h0])
    | (refine H_nil ?_; simp [h0])
    | (refine V_sseq ?_; simp [h0])
    | (refine V_scond ?_; simp [h0])
    | (refine V_sblock ?_; simp [h0])
    | (refine V_ret ?_; simp only [RunK])
    | fail)
      (refine EndOK.val (.inr rfl) ?_; simp [resD, oneOrTup, pureD, Tryd.results65])
    by_cases hnm : e.op = 1
    · rw [unitS_eq, if_neg h0, if_pos hnm]
      (refine Fun.of_body Tryd.func65 rfl (by simp) fun Γ hn => ?_); simp only [entry, List.zipIdx_cons, List.zipIdx_nil, List.map_cons, List.map_nil, Nat.zero_add, Tryd.ntmps65]
      simp only [eagg, jU]
      cases hga : asc g e.s with
      | some u =>
        rw [hga] at hg
        simp only [Option.map_some] at hg
        repeat' (first
    | (refine H_cons ?_; simp [h0, hnm, hg])
    | (refine HD_cons ?_; simp [h0, hnm, hg])
    | (refine H_nil ?_; simp [h0, hnm, hg])
    | (refine V_sseq ?_; simp [h0, hnm, hg])
    | (refine V_scond ?_; simp [h0, hnm, hg])
    | (refine HD_nil ?_)
    | (refine hk _ ?_; clear hk k; simp only [RunK])
    | (refine V_drawV rfl (by kernel_rfl) (by kernel_rfl) fun k hk => ?_; simp [h0, hnm, hg])
    | (refine V_sblock ?_; simp [h0, hnm, hg])
    | (refine V_ret ?_; simp only [RunK])
    | fail)
        (refine EndOK.val (.inr rfl) ?_; simp [resD, oneOrTup, pureD, Tryd.results65])
        simp [gF, hga]
      | none =>
        rw [hga] at hg
        simp only [Option.map_none] at hg
        cases hma : asc m e.s with
        | some q =>
          rw [hma] at hm
          simp only [Option.map_some] at hm
          repeat' (first
    | (refine H_cons ?_; simp [h0, hnm, hg, hm])
    | (refine HD2_val rfl ?_; simp [h0, hnm, hg, hm])
    | (refine HD_cons ?_; simp [h0, hnm, hg, hm])
    | (refine HD2_chg rfl ?_; simp [h0, hnm, hg, hm])
    | (refine H_nil ?_; simp [h0, hnm, hg, hm])
    | (refine V_sseq ?_; simp [h0, hnm, hg, hm])
    | (refine V_scond ?_; simp [h0, hnm, hg, hm])
    | (refine HD2_nil (hC _ (by kernel_rfl)) (hk _ ?_); clear hC hk C k; simp only [RunK])
    | (refine HD_nil ?_)
    | (refine hk _ ?_; clear hk k; simp only [RunK])
    | (refine V_drawV rfl (by kernel_rfl) (by kernel_rfl) fun k hk => ?_; simp [h0, hnm, hg, hm])
    | (refine V_drawE rfl (by kernel_rfl) (by kernel_rfl) (by simp [hn]) fun C k hC hk => ?_; simp [h0, hnm, hg, hm])
    | (refine V_sblock ?_; simp [h0, hnm, hg, hm])
    | (refine V_ret ?_; simp only [RunK])
    | (refine V_skip ?_; simp only [RunK])
    | fail)
          (refine EndOK.val (.inr rfl) ?_; simp [resD, oneOrTup, pureD, Tryd.results65])
          simp [gF, hga, mF, hma]
        | none =>
          rw [hma] at hm
          simp only [Option.map_none] at hm
          repeat' (first
    | (refine H_cons ?_; simp [h0, hnm, hg, hm])
    | (refine HD2_val rfl ?_; simp [h0, hnm, hg, hm])
    | (refine HD_cons ?_; simp [h0, hnm, hg, hm])
    | (refine HD2_chg rfl ?_; simp [h0, hnm, hg, hm])
    | (refine H_nil ?_; simp [h0, hnm, hg, hm])
    | (refine V_sseq ?_; simp [h0, hnm, hg, hm])
    | (refine V_scond ?_; simp [h0, hnm, hg, hm])
    | (refine HD2_nil (hC _ (by kernel_rfl)) (hk _ ?_); clear hC hk C k; simp only [RunK])
    | (refine HD_nil ?_)
    | (refine hk _ ?_; clear hk k; simp only [RunK])
    | (refine V_drawV rfl (by kernel_rfl) (by kernel_rfl) fun k hk => ?_; simp [h0, hnm, hg, hm])
    | (refine V_drawE rfl (by kernel_rfl) (by kernel_rfl) (by simp [hn]) fun C k hC hk => ?_; simp [h0, hnm, hg, hm])
    | (refine V_sblock ?_; simp [h0, hnm, hg, hm])
    | (refine V_ret ?_; simp only [RunK])
    | (refine V_skip ?_; simp only [RunK])
    | fail)
          (refine EndOK.val (.inr rfl) ?_; simp [resD, oneOrTup, pureD, Tryd.results65])
          simp [gF, hga, mF, hma]
    rw [unitS_eq, if_neg h0, if_neg hnm]
    (refine Fun.of_body Tryd.func65 rfl (by simp) fun Γ hn => ?_); simp only [entry, List.zipIdx_cons, List.zipIdx_nil, List.map_cons, List.map_nil, Nat.zero_add, Tryd.ntmps65]
    simp only [eagg, jU]
    have hr := h4 h0 hnm
    repeat' (first
    | (refine H_cons ?_; simp [h0, hnm])
    | (refine H_nil ?_; simp [h0, hnm])
    | (refine V_sseq ?_; simp [h0, hnm])
    | (refine V_scond ?_; simp [h0, hnm])
    | (refine V_sblock ?_; simp [h0, hnm])
    | (refine V_skip ?_; simp only [RunK])
    | fail)
    refine V_wk _ (Wk.own 10 3 1 (by decide) rfl) ?_
    simp [St.own]
    refine V_loopO (α := { p : Nat × List Int // p.1 ≤ e.args.length ∧ p.2 = (e.args.take p.1).map (fun x => (unitS (gF g) (mF m) x).1) ∧ ∀ x ∈ e.args.take p.1, (unitS (gF g) (mF m) x).2 = 0 }) [0, 3, 53, 54]
      (fun p => [(10, .vec 1 p.1.2.length), (55, .u (.int .i64 p.1.1))]) (fun p => [(1, .vec 3 1 (rowsD (p.1.2.map fun n => [U.int .i64 n]))), (0, .box [.u (.int .i64 e.op), .u (.int .i64 e.n), .u (.int .i64 e.unit), .u (.str e.s), .u (.sl (e.args.map Exp.row))])]) 2
      (fun p => e.args.length - p.1.1) ⟨(0, []), by simp, by simp, by simp⟩ ?_ ?_
    · exact (Wk.cut rfl (by simp [hn, St.lp]) (by simp [wkO, St.lp, getK_cons, getK, Ob.under, D.under, under_rowsD, under_entD]) (by simp [wkU, St.lp, keepE, getK_cons, getK, D.under]) (by simp [wkE, St.lp, keepE, getK_cons, getK] <;> (try (intros; simp_all; done)) <;> (try (intros; omega)) <;> (try grind)))
    rintro ⟨⟨i, acc⟩, hi, hacc, hb⟩
    simp only at hi hacc hb
    simp [St.lp, St.only, keepE, getK_cons, getK]
    rcases hx : e.args[i]? with _ | x
    · have hge : e.args.length ≤ i := by simpa using hx
      rw [List.take_of_length_le hge] at hacc hb
      have hok := unitsS_ok hb
      rw [← hacc] at hok
      have hal : (acc.length : Int) = operandsI e.op := by rw [hacc]; simpa using h1
      have h5 := comb_fun e.op acc (by omega) hal
      simp only [ints] at h5
      generalize hcb : combS e.op acc = cb at h5
      obtain ⟨c1, c2⟩ := cb
      repeat' (first
    | (refine H_cons ?_; simp [hx, h0, hnm])
    | (refine H_nil ?_; simp [hx, h0, hnm])
    | (refine ⟨by omega, ?_⟩)
    | (refine V_sseq ?_; simp [hx, h0, hnm])
    | (refine V_scond ?_; simp [hx, h0, hnm])
    | (refine V_ret ?_; simp only [RunK])
    | (refine V_skip ?_; simp only [RunK])
    | (refine V_exit ?_; simp [RunK])
    | (refine ⟨fun hc => ?_, fun hc => ?_⟩ <;> (try (exfalso; omega)))
    | (intro hc <;> (try (exfalso; omega)))
    | (refine CallP.fun_ (h5) (by first | rfl | fail) (by first | assumption | (simp; done) | fail) (by first | (simp [hx, h0, hnm]; done) | (simp [hx, h0, hnm]; rfl) | fail) (by first | (simp; done) | fail) (fun d hd => ?_); subst hd; (try simp [hx, h0, hnm]))
    | fail)
      all_goals
        (refine EndOK.val (.inr rfl) ?_; simp [resD, oneOrTup, pureD, Tryd.results65])
      all_goals (rw [hok]; simp_all; done)
    · have hlt : i < e.args.length := (List.getElem?_eq_some_iff.1 hx).1
      have h5 := unit_fun g m d x (hr x (List.mem_of_getElem? hx))
      simp only [eagg, jU] at h5
      have hal : acc.length = i := by rw [hacc]; simp; omega
      have h3a : e.args.length ≤ 3 := by
        have : operandsI e.op ≤ 3 := by unfold operandsI; repeat' split
                                        all_goals omega
        omega
      have her := fun h => unitsS_err (g := gF g) (m := mF m) hx hb h
      generalize hun : unitS (gF g) (mF m) x = un at h5 her
      obtain ⟨u, er⟩ := un
      repeat' (first
    | (refine H_cons ?_; simp [hx, x.row_eq, h0, hnm])
    | (refine H_nil ?_; simp [hx, x.row_eq, h0, hnm])
    | (refine ⟨by omega, ?_⟩)
    | (refine V_sseq ?_; simp [hx, x.row_eq, h0, hnm])
    | (refine V_scond ?_; simp [hx, x.row_eq, h0, hnm])
    | (refine V_sregion ?_; simp [hx, x.row_eq, h0, hnm])
    | (refine V_ret ?_; simp only [RunK])
    | (refine V_skip ?_; simp only [RunK])
    | (refine ⟨?_, by omega⟩)
    | (refine ⟨fun hc => ?_, fun hc => ?_⟩ <;> (try (exfalso; omega)))
    | (intro hc <;> (try (exfalso; omega)))
    | (refine CallP.fun_ (h5) (by first | rfl | fail) (by first | assumption | (simp; done) | fail) (by first | (simp [hx, x.row_eq, h0, hnm]; done) | (simp [hx, x.row_eq, h0, hnm]; rfl) | fail) (by first | (simp; done) | fail) (fun d hd => ?_); subst hd; (try simp [hx, x.row_eq, h0, hnm]))
    | fail)
      · (refine EndOK.val (.inr rfl) ?_; simp [resD, oneOrTup, pureD, Tryd.results65])
        rw [her (by simpa using (by assumption : ¬ er = 0))]
        simp
      · skip
        refine LoopW.next ⟨(i + 1, acc ++ [u]), (by omega : i + 1 ≤ e.args.length), (?_ : acc ++ [u] = _), ?_⟩ (by simp; omega) ?_
        · rw [List.take_succ_eq_append_getElem hlt, List.map_append, ← hacc, (List.getElem?_eq_some_iff.1 hx).2]
          simp [hun]
        · exact take_succ_all hx hb (by simp_all)
        · exact (Wk.ren ((fun i => if i = 1 then 4 else i)) rfl (by first | (simp [hn]; done) | (intro i hi; rw [hn] at hi; constructor <;> (try simp) <;> (try (intro _)) <;> omega)) (by simp [wkER, St.lp, keepE, getK_cons, getK, getK_del, getK_setOb, D.under, D.le, D.ren] <;> (try (intros; simp_all; done)) <;> (try omega)) (by simp [wkR, St.lp, getK_cons, getK, getK_del, getK_setOb, obR, leU, pureRow, pureRows, Ob.under, D.under, D.le, D.ren] <;> (try (intros; simp_all; done)) <;> (try omega)) (by simp))

theorem share_fun (g : GM) (m : LM) : ∀ (d : Nat) (e : Exp), rightB d e = true → Fun Tryd.prog 91 [.u (jU g m), eagg e] (· = .u (.bool (shareS (sF m) e)))
  | 0, e, h => by simp [rightB] at h
  | d + 1, e, h => by
    obtain ⟨h1, h2, h3, h4⟩ := right_args h
    rw [shareS_eq]
    have hm := look_m m e.s
    by_cases h0 : e.op = 0
    · rw [if_pos h0]
      (refine Fun.of_body Tryd.func91 rfl (by simp) fun Γ hn => ?_); simp only [entry, List.zipIdx_cons, List.zipIdx_nil, List.map_cons, List.map_nil, Nat.zero_add, Tryd.ntmps91]
      simp only [eagg, jU]
      repeat' (first
    | (refine H_cons ?_; simp [h0])
    | (refine H_nil ?_; simp [h0])
    | (refine V_sseq ?_; simp [h0])
    | (refine V_scond ?_; simp [h0])
    | (refine V_sblock ?_; simp [h0])
    | (refine V_ret ?_; simp only [RunK])
    | fail)
      (refine EndOK.val (.inr rfl) ?_; simp [resD, oneOrTup, pureD, Tryd.results91])
    rw [if_neg h0]
    by_cases hnm : e.op = 1
    · rw [if_pos hnm]
      cases hma : asc m e.s with
      | some q =>
        rw [hma] at hm
        simp only [Option.map_some] at hm
        (refine Fun.of_body Tryd.func91 rfl (by simp) fun Γ hn => ?_); simp only [entry, List.zipIdx_cons, List.zipIdx_nil, List.map_cons, List.map_nil, Nat.zero_add, Tryd.ntmps91]
        simp only [eagg, jU]
        repeat' (first
    | (refine H_cons ?_; simp [h0, hnm, hm])
    | (refine HD_cons ?_; simp [h0, hnm, hm])
    | (refine H_nil ?_; simp [h0, hnm, hm])
    | (refine V_sseq ?_; simp [h0, hnm, hm])
    | (refine V_scond ?_; simp [h0, hnm, hm])
    | (refine HD_nil ?_)
    | (refine hk _ ?_; clear hk k; simp only [RunK])
    | (refine V_drawV rfl (by kernel_rfl) (by kernel_rfl) fun k hk => ?_; simp [h0, hnm, hm])
    | (refine V_sblock ?_; simp [h0, hnm, hm])
    | (refine V_ret ?_; simp only [RunK])
    | fail)
        (refine EndOK.val (.inr rfl) ?_; simp [resD, oneOrTup, pureD, Tryd.results91])
        simp [sF, hma]
      | none =>
        rw [hma] at hm
        simp only [Option.map_none] at hm
        (refine Fun.of_body Tryd.func91 rfl (by simp) fun Γ hn => ?_); simp only [entry, List.zipIdx_cons, List.zipIdx_nil, List.map_cons, List.map_nil, Nat.zero_add, Tryd.ntmps91]
        simp only [eagg, jU]
        repeat' (first
    | (refine H_cons ?_; simp [h0, hnm, hm])
    | (refine HD_cons ?_; simp [h0, hnm, hm])
    | (refine H_nil ?_; simp [h0, hnm, hm])
    | (refine V_sseq ?_; simp [h0, hnm, hm])
    | (refine V_scond ?_; simp [h0, hnm, hm])
    | (refine HD_nil ?_)
    | (refine hk _ ?_; clear hk k; simp only [RunK])
    | (refine V_drawV rfl (by kernel_rfl) (by kernel_rfl) fun k hk => ?_; simp [h0, hnm, hm])
    | (refine V_sblock ?_; simp [h0, hnm, hm])
    | (refine V_ret ?_; simp only [RunK])
    | fail)
        (refine EndOK.val (.inr rfl) ?_; simp [resD, oneOrTup, pureD, Tryd.results91])
        simp [sF, hma]
    rw [if_neg hnm]
    have hr := h4 h0 hnm
    by_cases hA : e.op = 2 ∨ e.op = 3 ∨ e.op = 6 ∨ e.op = 7
    · rw [if_pos hA]
      have hl : e.args.length = 2 := by
        rcases hA with ha | ha | ha | ha <;> rw [ha] at h1 <;> simp [operandsI] at h1 <;> omega
      obtain ⟨a, b, hab⟩ : ∃ a b, e.args = [a, b] := by
        match hq : e.args, hl with
        | [a, b], _ => exact ⟨a, b, rfl⟩
      have h5 := share_fun g m d a (hr a (by simp [hab]))
      simp only [eagg, jU] at h5
      rw [hab, shareN]
      rcases hA with ha | ha | ha | ha
      all_goals
        (refine Fun.of_body Tryd.func91 rfl (by simp) fun Γ hn => ?_); simp only [entry, List.zipIdx_cons, List.zipIdx_nil, List.map_cons, List.map_nil, Nat.zero_add, Tryd.ntmps91]
        simp only [eagg, jU]
        repeat' (first
    | (refine H_cons ?_; simp [ha, hab, a.row_eq, b.row_eq])
    | (refine H_nil ?_; simp [ha, hab, a.row_eq, b.row_eq])
    | (refine V_sseq ?_; simp [ha, hab, a.row_eq, b.row_eq])
    | (refine V_scond ?_; simp [ha, hab, a.row_eq, b.row_eq])
    | (refine V_sblock ?_; simp [ha, hab, a.row_eq, b.row_eq])
    | (refine V_sregion ?_; simp [ha, hab, a.row_eq, b.row_eq])
    | (refine V_ret ?_; simp only [RunK])
    | (refine V_skip ?_; simp only [RunK])
    | (refine CallP.fun_ (h5) (by first | rfl | fail) (by first | assumption | (simp; done) | fail) (by first | (simp [ha, hab, a.row_eq, b.row_eq]; done) | (simp [ha, hab, a.row_eq, b.row_eq]; rfl) | fail) (by first | (simp; done) | fail) (fun d hd => ?_); subst hd; (try simp [ha, hab, a.row_eq, b.row_eq]))
    | fail)
        (refine EndOK.val (.inr rfl) ?_; simp [resD, oneOrTup, pureD, Tryd.results91])
    rw [if_neg hA]
    by_cases hB : e.op = 4
    · rw [if_pos hB]
      have hl : e.args.length = 2 := by rw [hB] at h1; simp [operandsI] at h1; omega
      obtain ⟨a, b, hab⟩ : ∃ a b, e.args = [a, b] := by
        match hq : e.args, hl with
        | [a, b], _ => exact ⟨a, b, rfl⟩
      have h5 := share_fun g m d a (hr a (by simp [hab]))
      have h6 := share_fun g m d b (hr b (by simp [hab]))
      simp only [eagg, jU] at h5 h6
      rw [hab, shareN, shareN, shareN]
      generalize shareS (sF m) a = x1 at h5 ⊢
      generalize shareS (sF m) b = x2 at h6 ⊢
      (refine Fun.of_body Tryd.func91 rfl (by simp) fun Γ hn => ?_); simp only [entry, List.zipIdx_cons, List.zipIdx_nil, List.map_cons, List.map_nil, Nat.zero_add, Tryd.ntmps91]
      simp only [eagg, jU]
      repeat' (first
    | (refine H_cons ?_; simp [hB, hab, a.row_eq, b.row_eq])
    | (refine H_nil ?_; simp [hB, hab, a.row_eq, b.row_eq])
    | (refine V_sseq ?_; simp [hB, hab, a.row_eq, b.row_eq])
    | (refine V_scond ?_; simp [hB, hab, a.row_eq, b.row_eq])
    | (refine V_sblock ?_; simp [hB, hab, a.row_eq, b.row_eq])
    | (refine V_sregion ?_; simp [hB, hab, a.row_eq, b.row_eq])
    | (refine V_ret ?_; simp only [RunK])
    | (refine ⟨fun hc => ?_, fun hc => ?_⟩ <;> (try (exfalso; omega)))
    | (refine CallP.fun_ (h5) (by first | rfl | fail) (by first | assumption | (simp; done) | fail) (by first | (simp [hB, hab, a.row_eq, b.row_eq]; done) | (simp [hB, hab, a.row_eq, b.row_eq]; rfl) | fail) (by first | (simp; done) | fail) (fun d hd => ?_); subst hd; (try simp [hB, hab, a.row_eq, b.row_eq]))
    | (refine CallP.fun_ (h6) (by first | rfl | fail) (by first | assumption | (simp; done) | fail) (by first | (simp [hB, hab, a.row_eq, b.row_eq]; done) | (simp [hB, hab, a.row_eq, b.row_eq]; rfl) | fail) (by first | (simp; done) | fail) (fun d hd => ?_); subst hd; (try simp [hB, hab, a.row_eq, b.row_eq]))
    | fail)
      all_goals
        (refine EndOK.val (.inr rfl) ?_; simp [resD, oneOrTup, pureD, Tryd.results91])
      all_goals (simp_all; done)
    rw [if_neg hB]
    by_cases hC : e.op = 13
    · rw [if_pos hC]
      have hl : e.args.length = 3 := by rw [hC] at h1; simp [operandsI] at h1; omega
      obtain ⟨a, b, c, hab⟩ : ∃ a b c, e.args = [a, b, c] := by
        match hq : e.args, hl with
        | [a, b, c], _ => exact ⟨a, b, c, rfl⟩
      have h5 := share_fun g m d b (hr b (by simp [hab]))
      simp only [eagg, jU] at h5
      rw [hab, shareN, shareN]
      (refine Fun.of_body Tryd.func91 rfl (by simp) fun Γ hn => ?_); simp only [entry, List.zipIdx_cons, List.zipIdx_nil, List.map_cons, List.map_nil, Nat.zero_add, Tryd.ntmps91]
      simp only [eagg, jU]
      repeat' (first
    | (refine H_cons ?_; simp [hC, hab, a.row_eq, b.row_eq, c.row_eq])
    | (refine H_nil ?_; simp [hC, hab, a.row_eq, b.row_eq, c.row_eq])
    | (refine V_sseq ?_; simp [hC, hab, a.row_eq, b.row_eq, c.row_eq])
    | (refine V_scond ?_; simp [hC, hab, a.row_eq, b.row_eq, c.row_eq])
    | (refine V_sblock ?_; simp [hC, hab, a.row_eq, b.row_eq, c.row_eq])
    | (refine V_sregion ?_; simp [hC, hab, a.row_eq, b.row_eq, c.row_eq])
    | (refine V_ret ?_; simp only [RunK])
    | (refine CallP.fun_ (h5) (by first | rfl | fail) (by first | assumption | (simp; done) | fail) (by first | (simp [hC, hab, a.row_eq, b.row_eq, c.row_eq]; done) | (simp [hC, hab, a.row_eq, b.row_eq, c.row_eq]; rfl) | fail) (by first | (simp; done) | fail) (fun d hd => ?_); subst hd; (try simp [hC, hab, a.row_eq, b.row_eq, c.row_eq]))
    | fail)
      (refine EndOK.val (.inr rfl) ?_; simp [resD, oneOrTup, pureD, Tryd.results91])
    rw [if_neg hC]
    have hD : ¬ e.op = 2 ∧ ¬ e.op = 3 ∧ ¬ e.op = 6 ∧ ¬ e.op = 7 := by omega
    (refine Fun.of_body Tryd.func91 rfl (by simp) fun Γ hn => ?_); simp only [entry, List.zipIdx_cons, List.zipIdx_nil, List.map_cons, List.map_nil, Nat.zero_add, Tryd.ntmps91]
    simp only [eagg, jU]
    repeat' (first
    | (refine H_cons ?_; simp [h0, hnm, hB, hC, hD.1, hD.2.1, hD.2.2.1, hD.2.2.2])
    | (refine H_nil ?_; simp [h0, hnm, hB, hC, hD.1, hD.2.1, hD.2.2.1, hD.2.2.2])
    | (refine V_sseq ?_; simp [h0, hnm, hB, hC, hD.1, hD.2.1, hD.2.2.1, hD.2.2.2])
    | (refine V_scond ?_; simp [h0, hnm, hB, hC, hD.1, hD.2.1, hD.2.2.1, hD.2.2.2])
    | (refine V_sblock ?_; simp [h0, hnm, hB, hC, hD.1, hD.2.1, hD.2.2.1, hD.2.2.2])
    | (refine V_sregion ?_; simp [h0, hnm, hB, hC, hD.1, hD.2.1, hD.2.2.1, hD.2.2.2])
    | (refine V_ret ?_; simp only [RunK])
    | (refine V_skip ?_; simp only [RunK])
    | fail)
    (refine EndOK.val (.inr rfl) ?_; simp [resD, oneOrTup, pureD, Tryd.results91])
theorem nj1_fun (l : Let) : Fun Tryd.prog 90 (lagg l :: [].map .u) (· = .u (.bool (!rightB 12 l.body))) := by
  have h1 := rightExp_fun l.body
  simp only [lagg, List.map_nil, eagg] at h1 ⊢
  (refine Fun.of_body Tryd.func90 rfl (by simp) fun Γ hn => ?_); simp only [entry, List.zipIdx_cons, List.zipIdx_nil, List.map_cons, List.map_nil, Nat.zero_add, Tryd.ntmps90]
  repeat' (first
    | (refine H_cons ?_; simp)
    | (refine H_nil ?_; simp)
    | (refine V_sseq ?_; simp)
    | (refine V_ret ?_; simp only [RunK])
    | (refine CallP.fun_ (h1) (by first | rfl | fail) (by first | assumption | (simp; done) | fail) (by first | (simp; done) | (simp; rfl) | fail) (by first | (simp; done) | fail) (fun d hd => ?_); subst hd; (try simp))
    | fail)
  (refine EndOK.val (.inr rfl) ?_; simp [resD, oneOrTup, pureD, Tryd.results90])
def varsU (l : List Var) : U := .sl (l.map fun v => [.str v.name, .int .i64 v.unit, .int .i64 v.n])
/-- What the given names mean. -/
def gOf (names : List Var) : GM := names.foldl (fun g v => if asc g v.name = none then ascPut g v.name v.unit else g) []
/-- What the lets mean. -/
def mOf (g : GM) (lets : List Let) : LM := lets.foldl (fun m l => ascPut m l.name ((unitS (gF g) (mF m) l.body).1, (unitS (gF g) (mF m) l.body).2, shareS (sF m) l.body)) []
def unitOK (v : Var) : Bool := decide (0 ≤ v.unit) && decide (v.unit < 5)
def rightAll (lets : List Let) (e : Exp) : Bool := decide (lets.length ≤ 20) && rightB 12 e && !lets.any (fun l => !rightB 12 l.body)
def okJ (lets : List Let) (names : List Var) (e : Exp) : Bool := rightAll lets e && names.all unitOK
def judgeD (lets : List Let) (names : List Var) (e : Exp) : D := if okJ lets names e = true then .tup [.u (jU (gOf names) (mOf (gOf names) lets)), .u (.bool true)] else .tup [.u (.oth (.pointer none)), .u (.bool false)]
theorem upd_g (g : GM) (x : List UInt8) (u : Int) : updK (gmap g) (.s x) [U.int .i64 u] = gmap (ascPut g x u) := updK_asc (fun u : Int => [U.int .i64 u]) x u g
theorem upd_m (g : LM) (x : List UInt8) (u e : Int) (b : Bool) : updK (lmap g) (.s x) [U.int .i64 u, .int .i64 e, .bool b] = lmap (ascPut g x (u, e, b)) := updK_asc (fun q : Int × Int × Bool => [U.int .i64 q.1, .int .i64 q.2.1, .bool q.2.2]) x (u, e, b) g
theorem foldl_succ {α β : Type} (f : β → α → β) (b : β) {l : List α} {i : Nat} {x : α} (h : l[i]? = some x) : (l.take (i + 1)).foldl f b = f ((l.take i).foldl f b) x := by
  obtain ⟨hi, rfl⟩ := List.getElem?_eq_some_iff.1 h
  rw [List.take_succ_eq_append_getElem hi, List.foldl_append]
  rfl
theorem gOf_succ {names : List Var} {i : Nat} {v : Var} (h : names[i]? = some v) : gOf (names.take (i + 1)) = if asc (gOf (names.take i)) v.name = none then ascPut (gOf (names.take i)) v.name v.unit else gOf (names.take i) := foldl_succ _ _ h
theorem mOf_succ {g : GM} {lets : List Let} {i : Nat} {l : Let} (h : lets[i]? = some l) : mOf g (lets.take (i + 1)) = ascPut (mOf g (lets.take i)) l.name ((unitS (gF g) (mF (mOf g (lets.take i))) l.body).1, (unitS (gF g) (mF (mOf g (lets.take i))) l.body).2, shareS (sF (mOf g (lets.take i))) l.body) := foldl_succ _ _ h
theorem judge_fun (lets : List Let) (names : List Var) (e : Exp) : Fun Tryd.prog 64 [.u (letsU lets), .u (varsU names), eagg e] (· = judgeD lets names e) := by
  have h1 := rightExp_fun e
  have h2 := containsL_fun lets 90 [] _ (fun x _ => nj1_fun x) (by simp) (fun _ => rfl) (fun _ => rfl)
  simp only [List.map_nil, letsU, eagg] at h1 h2
  generalize hre : rightB 12 e = re at h1
  generalize hrl : (lets.any fun l => !rightB 12 l.body) = rl at h2
  have hok0 : okJ lets names e = (decide (lets.length ≤ 20) && re && !rl && names.all unitOK) := by rw [okJ, rightAll, hre, hrl]
  have hre' := hre
  have hrl' := hrl
  clear hre hrl
  unfold judgeD
  generalize okJ lets names e = K at hok0 ⊢
  (refine Fun.of_bodyW Tryd.func64 rfl (by simp) fun Γ hn => ?_); simp only [entry, List.zipIdx_cons, List.zipIdx_nil, List.map_cons, List.map_nil, Nat.zero_add, Tryd.ntmps64]
  simp only [eagg, letsU, varsU]
  refine V_len (x := 0) rfl fun hl0 => ?_
  refine V_len (x := 1) rfl fun hl1 => ?_
  simp only [List.length_map] at hl0 hl1
  repeat' (first
    | (refine H_cons ?_; simp)
    | (refine H_nil ?_; simp)
    | (refine V_sseq ?_; simp)
    | (refine V_scond ?_; simp)
    | (refine V_sblock ?_; simp)
    | (refine V_ret ?_; simp only [RunK])
    | (refine V_skip ?_; simp only [RunK])
    | (refine ⟨fun hc => ?_, fun hc => ?_⟩ <;> (try (exfalso; omega)))
    | (refine CallP.fun_ (h1) (by first | rfl | fail) (by first | assumption | (simp; done) | fail) (by first | (simp; done) | (simp; rfl) | fail) (by first | (simp; done) | fail) (fun d hd => ?_); subst hd; (try simp))
    | (refine CallP.fun_ (h2) (by first | rfl | fail) (by first | assumption | (simp; done) | fail) (by first | (simp; done) | (simp; rfl) | fail) (by first | (simp; done) | fail) (fun d hd => ?_); subst hd; (try simp))
    | fail)
  all_goals try (refine EndW.here ?_; have hKf : K = false := (by first | (rw [hok0]; clear h1 h2 hok0 hre' hrl'; simp; intros; simp_all; done) | (rw [hok0]; clear h1 h2 hok0 hre' hrl'; simp; intros; omega) | fail); subst hKf; (refine EndOK.val (.inr rfl) ?_; simp [resD, oneOrTup, pureD, Tryd.results64]); done)
  refine V_loopO (α := { i : Nat // i ≤ names.length ∧ ∀ v ∈ names.take i, unitOK v = true }) [0, 8, 33, 34] (fun i => [(35, .u (.int .i64 i.1))])
    (fun i => [(3, .box [.mp 1, .mp 2]), (2, .map .s true []), (1, .map .s false (entD (gmap (gOf (names.take i.1))))), (0, .box [.u (.int .i64 e.op), .u (.int .i64 e.n), .u (.int .i64 e.unit), .u (.str e.s), .u (.sl (e.args.map Exp.row))])]) 4
    (fun i => names.length - i.1) ⟨0, by omega, by simp⟩ ?_ ?_
  · exact (Wk.cut rfl (by simp [hn, St.lp]) (by simp [wkO, St.lp, getK_cons, getK, Ob.under, D.under, under_rowsD, under_entD, gOf, gmap, entD_nil, Ob.under]) (by simp [wkU, St.lp, keepE, getK_cons, getK, D.under, gOf, gmap, entD_nil, Ob.under]) (by simp [wkE, St.lp, keepE, getK_cons, getK, gOf, gmap, entD_nil, Ob.under] <;> (try (intros; simp_all; done)) <;> (try (intros; omega)) <;> (try grind)))
  rintro ⟨i, hi, hb⟩
  simp [St.lp, St.only, keepE, getK_cons, getK]
  rcases hx : names[i]? with _ | v
  · have hge : names.length ≤ i := by simpa using hx
    obtain rfl : i = names.length := by omega
    rw [List.take_length] at hb
    have hall : names.all unitOK = true := by simpa [List.all_eq_true] using hb
    repeat' (first
    | (refine H_cons ?_; simp [hx])
    | (refine H_nil ?_; simp [hx])
    | (refine V_sseq ?_; simp [hx])
    | (refine V_sblock ?_; simp [hx])
    | (refine V_exit ?_; simp [RunK])
    | fail)
    refine V_loopO (α := { i : Nat // i ≤ lets.length }) [8, 68, 69] (fun i => [(70, .u (.int .i64 i.1))])
      (fun i => [(3, .box [.mp 1, .mp 2]), (2, .map .s true (entD (lmap (mOf (gOf names) (lets.take i.1))))), (1, .map .s false (entD (gmap (gOf names)))), (0, .box [.u (.int .i64 e.op), .u (.int .i64 e.n), .u (.int .i64 e.unit), .u (.str e.s), .u (.sl (e.args.map Exp.row))])]) 4
      (fun i => lets.length - i.1) ⟨0, by omega⟩ ?_ ?_
    · exact (Wk.cut rfl (by simp [hn, St.lp]) (by simp [wkO, St.lp, getK_cons, getK, Ob.under, D.under, under_rowsD, under_entD, mOf, lmap, entD_nil, Ob.under]) (by simp [wkU, St.lp, keepE, getK_cons, getK, D.under, mOf, lmap, entD_nil, Ob.under]) (by simp [wkE, St.lp, keepE, getK_cons, getK, mOf, lmap, entD_nil, Ob.under] <;> (try (intros; simp_all; done)) <;> (try (intros; omega)) <;> (try grind)))
    rintro ⟨k, hk0⟩
    simp [St.lp, St.only, keepE, getK_cons, getK]
    rcases hy : lets[k]? with _ | l
    · have hgk : lets.length ≤ k := by simpa using hy
      obtain rfl : k = lets.length := by omega
      obtain rfl : K = true := by
        rw [hok0, hall]
        have : lets.length ≤ 20 := by omega
        clear h1 h2
        simp_all
      repeat' (first
    | (refine H_cons ?_; simp [hy])
    | (refine H_nil ?_; simp [hy])
    | (refine V_sseq ?_; simp [hy])
    | (refine V_ret ?_; simp only [RunK])
    | (refine V_exit ?_; simp [RunK])
    | fail)
      (refine EndW.frzN 2 ?_; simp [frzN, frz1, frz_env, frz_obs, St.frz, St.frzS, frzS, fv, fzVec, fzMap, fzBox, frzObS, frz_entD, frz_rowsD, del, frz, frzOb])
      (refine EndW.frzB 3 ?_; simp [frzB, frz_env, frz_obs, St.frzS, frzS, fv, fzVec, fzMap, fzBox, frzObS, frz_entD, frz_rowsD, del])
      refine EndW.here ?_
      (refine EndOK.val (.inr rfl) ?_; simp [resD, oneOrTup, pureD, Tryd.results64])
      rfl
    · have hltk : k < lets.length := (List.getElem?_eq_some_iff.1 hy).1
      have hsu := mOf_succ (g := gOf names) hy
      have hrl : rightB 12 l.body = true := by
        have h7 : (lets.any fun l => !rightB 12 l.body) = false := by rw [hrl']; assumption
        rw [List.any_eq_false] at h7
        simpa using h7 l (List.mem_of_getElem? hy)
      have h5 := unit_fun (gOf names) (mOf (gOf names) (lets.take k)) 12 l.body hrl
      have h6 := share_fun (gOf names) (mOf (gOf names) (lets.take k)) 12 l.body hrl
      simp only [eagg, jU] at h5 h6
      repeat' (first
    | (refine H_cons ?_; simp [hy, upd_m])
    | (refine HD2_val rfl ?_; simp [hy, upd_m])
    | (refine HD2_chg rfl ?_; simp [hy, upd_m])
    | (refine H_nil ?_; simp [hy, upd_m])
    | (refine ⟨by omega, ?_⟩)
    | (refine V_sseq ?_; simp [hy, upd_m])
    | (refine HD2_nil (hC _ (by kernel_rfl)) (hk _ ?_); clear hC hk C k; simp only [RunK])
    | (refine V_drawE rfl (by kernel_rfl) (by kernel_rfl) (by simp [hn]) fun C k hC hk => ?_; simp [hy, upd_m])
    | (refine V_sregion ?_; simp [hy, upd_m])
    | (refine V_skip ?_; simp only [RunK])
    | (refine ⟨?_, by omega⟩)
    | (intro hc <;> (try (exfalso; omega)))
    | (refine CallP.fun_ (h5) (by first | rfl | fail) (by first | assumption | (simp; done) | fail) (by first | (simp [hy, upd_m]; done) | (simp [hy, upd_m]; rfl) | fail) (by first | (simp; done) | fail) (fun d hd => ?_); subst hd; (try simp [hy, upd_m]))
    | (refine CallV.fun_ (h6) (by first | rfl | fail) (by first | assumption | (simp; done) | fail) (by first | (simp [hy, upd_m]; done) | (simp [hy, upd_m]; rfl) | fail) (by first | (simp; done) | fail) ?_ <;> (try simp [hy, upd_m]))
    | fail)
      refine LoopW.next ⟨k + 1, by omega⟩ (by simp; omega) ?_
      exact (Wk.cut rfl (by simp [hn, St.lp]) (by simp [wkO, St.lp, getK_cons, getK, Ob.under, D.under, under_rowsD, under_entD, hsu]) (by simp [wkU, St.lp, keepE, getK_cons, getK, D.under, hsu]) (by simp [wkE, St.lp, keepE, getK_cons, getK, hsu] <;> (try (intros; simp_all; done)) <;> (try (intros; omega)) <;> (try grind)))
  · have hlt : i < names.length := (List.getElem?_eq_some_iff.1 hx).1
    have hg := look_g (gOf (names.take i)) v.name
    have hsu := gOf_succ hx
    have hok : unitOK v = (decide (0 ≤ v.unit) && decide (v.unit < 5)) := rfl
    have hbad : unitOK v = false → names.all unitOK = false := fun h => by
      rw [List.all_eq_false]
      exact ⟨v, List.mem_of_getElem? hx, by simp [h]⟩
    cases hga : asc (gOf (names.take i)) v.name with
    | some u =>
      rw [hga] at hg hsu
      simp only [Option.map_some] at hg
      repeat' (first
    | (refine H_cons ?_; simp [hx, hg])
    | (refine HD_cons ?_; simp [hx, hg])
    | (refine H_nil ?_; simp [hx, hg])
    | (refine ⟨by omega, ?_⟩)
    | (refine V_sseq ?_; simp [hx, hg])
    | (refine V_scond ?_; simp [hx, hg])
    | (refine HD_nil ?_)
    | (refine hk _ ?_; clear hk k; simp only [RunK])
    | (refine V_drawV rfl (by kernel_rfl) (by kernel_rfl) fun k hk => ?_; simp [hx, hg])
    | (refine V_sregion ?_; simp [hx, hg])
    | (refine V_ret ?_; simp only [RunK])
    | (refine V_skip ?_; simp only [RunK])
    | (refine ⟨?_, by omega⟩)
    | (refine ⟨fun hc => ?_, fun hc => ?_⟩ <;> (try (exfalso; omega)))
    | (intro hc <;> (try (exfalso; omega)))
    | fail)
      all_goals first
        | (refine LoopW.next ⟨i + 1, by omega, take_succ_all hx hb (by rw [hok]; simp; omega)⟩ (by simp; omega) ?_; exact (Wk.cut rfl (by simp [hn, St.lp]) (by simp [wkO, St.lp, getK_cons, getK, Ob.under, D.under, under_rowsD, under_entD, hsu]) (by simp [wkU, St.lp, keepE, getK_cons, getK, D.under, hsu]) (by simp [wkE, St.lp, keepE, getK_cons, getK, hsu] <;> (try (intros; simp_all; done)) <;> (try (intros; omega)) <;> (try grind))))
        | (refine EndW.here ?_; have hKf : K = false := (by first | (rw [hok0, hbad (by rw [hok]; simp; omega)]; simp; done) | fail); subst hKf; (refine EndOK.val (.inr rfl) ?_; simp [resD, oneOrTup, pureD, Tryd.results64]))
    | none =>
      rw [hga] at hg hsu
      simp only [Option.map_none] at hg
      repeat' (first
    | (refine H_cons ?_; simp [hx, hg, upd_g])
    | (refine HD2_val rfl ?_; simp [hx, hg, upd_g])
    | (refine HD_cons ?_; simp [hx, hg, upd_g])
    | (refine HD2_chg rfl ?_; simp [hx, hg, upd_g])
    | (refine H_nil ?_; simp [hx, hg, upd_g])
    | (refine ⟨by omega, ?_⟩)
    | (refine V_sseq ?_; simp [hx, hg, upd_g])
    | (refine V_scond ?_; simp [hx, hg, upd_g])
    | (refine HD2_nil (hC _ (by kernel_rfl)) (hk _ ?_); clear hC hk C k; simp only [RunK])
    | (refine HD_nil ?_)
    | (refine hk _ ?_; clear hk k; simp only [RunK])
    | (refine V_drawV rfl (by kernel_rfl) (by kernel_rfl) fun k hk => ?_; simp [hx, hg, upd_g])
    | (refine V_drawE rfl (by kernel_rfl) (by kernel_rfl) (by simp [hn]) fun C k hC hk => ?_; simp [hx, hg, upd_g])
    | (refine V_sregion ?_; simp [hx, hg, upd_g])
    | (refine V_ret ?_; simp only [RunK])
    | (refine V_skip ?_; simp only [RunK])
    | (refine ⟨?_, by omega⟩)
    | (refine ⟨fun hc => ?_, fun hc => ?_⟩ <;> (try (exfalso; omega)))
    | (intro hc <;> (try (exfalso; omega)))
    | fail)
      all_goals first
        | (refine LoopW.next ⟨i + 1, by omega, take_succ_all hx hb (by rw [hok]; simp; omega)⟩ (by simp; omega) ?_; exact (Wk.cut rfl (by simp [hn, St.lp]) (by simp [wkO, St.lp, getK_cons, getK, Ob.under, D.under, under_rowsD, under_entD, hsu]) (by simp [wkU, St.lp, keepE, getK_cons, getK, D.under, hsu]) (by simp [wkE, St.lp, keepE, getK_cons, getK, hsu] <;> (try (intros; simp_all; done)) <;> (try (intros; omega)) <;> (try grind))))
        | (refine EndW.here ?_; have hKf : K = false := (by first | (rw [hok0, hbad (by rw [hok]; simp; omega)]; simp; done) | fail); subst hKf; (refine EndOK.val (.inr rfl) ?_; simp [resD, oneOrTup, pureD, Tryd.results64]))
end Go.Proofs.YtfcopibncpkdoaaDoor
namespace Go.Proofs.YtfcopibncpkdoaaDoor
open Go Go.VL
theorem rights_out {lets : List Let} {e : Exp} (h : rightAll lets e = true) : lets.length ≤ 20 ∧ rightB 12 e = true ∧ ∀ l ∈ lets, rightB 12 l.body = true := by
  simp only [rightAll, Bool.and_eq_true, decide_eq_true_eq, Bool.not_eq_true', List.any_eq_false, Bool.not_eq_true] at h
  exact ⟨h.1.1, h.1.2, fun l hl => by have := h.2 l hl; simpa using this⟩
def shareP (lets : List Let) (e : Exp) : Bool := rightAll lets e && shareS (sF (mOf [] lets)) e
abbrev Tab := List (Int × Int × Bool)
/-- A number that is not too great. -/
def keptX (n : Int) : Except Int Int := if 1099511627776 < n ∨ n < -1099511627776 then .error 3 else .ok n
def floorX (a b : Int) : Int := if a.tdiv b * b ≠ a ∧ ¬ (a < 0 ↔ b < 0) then a.tdiv b - 1 else a.tdiv b
def prodX (a b c : Int) : Except Int Int :=
  if a ≠ 0 ∧ ((1099511627777 * c).tdiv (max a (-a)) < b ∨ b < (-(1099511627777 * c)).tdiv (max a (-a))) then .error 3 else keptX (floorX (a * b) c)
def truthX (b : Bool) : Int := if b = true then 1 else 0
def binX (op : Int) (sh : Bool) (a b : Int) : Except Int Int :=
  if op = 2 then keptX (a + b) else if op = 3 then keptX (a - b) else if op = 4 then prodX a b (if sh = true then 1000 else 1)
  else if op = 5 then (if b = 0 then .error 15 else keptX (floorX a b))
  else if op = 6 then .ok (min a b) else if op = 7 then .ok (max a b) else if op = 8 then .ok (truthX (decide (a < b))) else .ok (truthX (decide (a = b)))
abbrev TM := Tab → Except Int Int × Tab
def TM.bind (f : TM) (g : Int → TM) : TM := fun t => match f t with | (.ok v, t') => g v t' | (.error e, t') => (.error e, t')
def TM.ret (x : Except Int Int) : TM := fun t => (x, t)
theorem TM.bind_ok {f : TM} {g : Int → TM} {t t' : Tab} {v : Int} (h : f t = (.ok v, t')) : f.bind g t = g v t' := by unfold TM.bind; rw [h]
theorem TM.bind_err {f : TM} {g : Int → TM} {t t' : Tab} {e : Int} (h : f t = (.error e, t')) : f.bind g t = (.error e, t') := by unfold TM.bind; rw [h]
mutual
def valT (nm : List UInt8 → TM) (sh : Exp → Bool) : Exp → TM
  | .mk op n _ s args =>
    if op = 0 then .ret (keptX n)
    else if op = 1 then nm s
    else if op = 10 then (valN nm sh args 0).bind fun a => if a = 0 then .ret (.ok 0) else (valN nm sh args 1).bind fun b => .ret (.ok (truthX (decide (b ≠ 0))))
    else if op = 11 then (valN nm sh args 0).bind fun a => if a ≠ 0 then .ret (.ok 1) else (valN nm sh args 1).bind fun b => .ret (.ok (truthX (decide (b ≠ 0))))
    else if op = 12 then (valN nm sh args 0).bind fun a => .ret (.ok (truthX (decide (a = 0))))
    else if op = 13 then (valN nm sh args 0).bind fun a => if a ≠ 0 then valN nm sh args 1 else valN nm sh args 2
    else (valN nm sh args 0).bind fun a => (valN nm sh args 1).bind fun b => .ret (binX op ((args.take 2).any sh) a b)
def valN (nm : List UInt8 → TM) (sh : Exp → Bool) : List Exp → Nat → TM
  | [], _ => .ret (.error 0)
  | e :: _, 0 => valT nm sh e
  | _ :: r, i + 1 => valN nm sh r i
end
theorem valN_at {nm sh} : ∀ {l : List Exp} {i : Nat} {e : Exp}, l[i]? = some e → valN nm sh l i = valT nm sh e
  | [], _, _, h => by simp at h
  | a :: r, 0, e, h => by simp at h; subst h; rw [valN]
  | a :: r, i + 1, e, h => by rw [valN]; exact valN_at (by simpa using h)
theorem valT_eq (nm sh) (e : Exp) : valT nm sh e = if e.op = 0 then .ret (keptX e.n)
    else if e.op = 1 then nm e.s
    else if e.op = 10 then (valN nm sh e.args 0).bind fun a => if a = 0 then .ret (.ok 0) else (valN nm sh e.args 1).bind fun b => .ret (.ok (truthX (decide (b ≠ 0))))
    else if e.op = 11 then (valN nm sh e.args 0).bind fun a => if a ≠ 0 then .ret (.ok 1) else (valN nm sh e.args 1).bind fun b => .ret (.ok (truthX (decide (b ≠ 0))))
    else if e.op = 12 then (valN nm sh e.args 0).bind fun a => .ret (.ok (truthX (decide (a = 0))))
    else if e.op = 13 then (valN nm sh e.args 0).bind fun a => if a ≠ 0 then valN nm sh e.args 1 else valN nm sh e.args 2
    else (valN nm sh e.args 0).bind fun a => (valN nm sh e.args 1).bind fun b => .ret (binX e.op ((e.args.take 2).any sh) a b) := by
  cases e with | mk op n u s args => rw [valT]; rfl
/-- The value and the error that a let's entry holds. -/
def entX : Except Int Int → Int × Int × Bool
  | .ok v => (v, 0, true)
  | .error e => (0, e, true)
def outX (v e : Int) : Except Int Int := if e = 0 then .ok v else .error e
def nmT (lets : List Let) (given : List UInt8 → Option Int) : Nat → List UInt8 → TM
  | 0, s => .ret (match given s with | some v => .ok v | none => .error 13)
  | n + 1, s => match given s with
    | some v => .ret (.ok v)
    | none => match lets[n]? with
      | none => .ret (.error 13)
      | some l => if l.name = s then fun t => match t[n]? with
          | some (v, e, true) => (outX v e, t)
          | _ => match valT (nmT lets given n) (shareP (lets.take n)) l.body t with
            | (r, t') => (outX (entX r).1 (entX r).2.1, t'.set n (entX r))
        else nmT lets given n s
/-- The value of an expression, for the first n lets. -/
def valL (lets : List Let) (given : List UInt8 → Option Int) (n : Nat) (e : Exp) : TM := valT (nmT lets given n) (shareP (lets.take n)) e
def inC (v : Int) : Prop := -1099511627776 ≤ v ∧ v ≤ 1099511627776
theorem keptX_in {n v : Int} (h : keptX n = .ok v) : inC v ∧ v = n := by
  unfold keptX at h
  split at h
  · cases h
  · cases h; exact ⟨by unfold inC; omega, rfl⟩
theorem keptX_err {n e : Int} (h : keptX n = .error e) : e = 3 := by
  unfold keptX at h
  split at h <;> cases h
  rfl
theorem prodX_in {a b c v : Int} (h : prodX a b c = .ok v) : inC v := by
  unfold prodX at h
  split at h
  · cases h
  · exact (keptX_in h).1
theorem prodX_err {a b c e : Int} (h : prodX a b c = .error e) : e = 3 := by
  unfold prodX at h
  split at h
  · cases h; rfl
  · exact keptX_err h
theorem truthX_in (b : Bool) : inC (truthX b) := by unfold inC truthX; split <;> omega
theorem binX_in {op sh a b v} (ha : inC a) (hb : inC b) (h : binX op sh a b = .ok v) : inC v := by
  unfold binX at h
  repeat' split at h
  all_goals first
    | exact (keptX_in h).1
    | exact prodX_in h
    | (cases h; done)
    | (cases h; exact truthX_in _)
    | (cases h; unfold inC at *; omega)
theorem binX_err {op sh a b e} (h : binX op sh a b = .error e) : e = 3 ∨ e = 15 := by
  unfold binX at h
  repeat' split at h
  all_goals first
    | exact .inl (keptX_err h)
    | exact .inl (prodX_err h)
    | (cases h; done)
    | (cases h; exact .inr rfl)
/-- What is known of a table: as many entries as lets, and small values. -/
structure TabOK (L : Nat) (t : Tab) : Prop where
  len : t.length = L
  small : ∀ (i : Nat) (v e : Int) (d : Bool), t[i]? = some (v, e, d) → inC v
def TMok (L : Nat) (f : TM) : Prop := ∀ t, TabOK L t → TabOK L (f t).2 ∧ (∀ v, (f t).1 = .ok v → inC v) ∧ (∀ e, (f t).1 = .error e → e ≠ 0)
theorem TMok.bind {L f g} (hf : TMok L f) (hg : ∀ a, inC a → TMok L (g a)) : TMok L (TM.bind f g) := fun t ht => by
  obtain ⟨h1, h2, h3⟩ := hf t ht
  unfold TM.bind
  rcases hft : f t with ⟨r | v, t'⟩
  · rw [hft] at h1 h3
    refine ⟨h1, ?_, ?_⟩
    · intro v h; cases h
    · intro e h; exact h3 e h
  · rw [hft] at h1 h2
    exact hg v (h2 v rfl) t' h1
theorem TMok.ret {L} {x : Except Int Int} (h : ∀ v, x = .ok v → inC v) (he : ∀ e, x = .error e → e ≠ 0) : TMok L (TM.ret x) := fun t ht => ⟨ht, h, he⟩
theorem TMok.ok {L} {v : Int} (h : inC v) : TMok L (TM.ret (.ok v)) := .ret (fun w hw => by cases hw; exact h) (fun e he => by cases he)
theorem valT_ok {L nm sh} (hn : ∀ s, TMok L (nm s)) : ∀ (d : Nat) (e : Exp), rightB d e = true → TMok L (valT nm sh e)
  | 0, e, h => by simp [rightB] at h
  | d + 1, e, h => by
    obtain ⟨h1, h2, h3, h4⟩ := right_args h
    rw [valT_eq]
    by_cases c0 : e.op = 0
    · rw [if_pos c0]
      exact .ret (fun v hv => (keptX_in hv).1) (fun e he => by rw [keptX_err he]; decide)
    rw [if_neg c0]
    by_cases c1 : e.op = 1
    · rw [if_pos c1]
      exact hn _
    rw [if_neg c1]
    have hA : ∀ i : Nat, (i : Int) < operandsI e.op → TMok L (valN nm sh e.args i) := fun i hi => by
      have hlt : i < e.args.length := by omega
      rw [valN_at (List.getElem?_eq_getElem hlt)]
      exact valT_ok hn d _ (h4 c0 c1 _ (List.getElem_mem hlt))
    have i0 : inC 0 := by unfold inC; omega
    have i1 : inC 1 := by unfold inC; omega
    by_cases c2 : e.op = 10
    · rw [if_pos c2]
      rw [c2] at hA
      refine .bind (hA 0 (by decide)) fun a ha => ?_
      split
      · exact .ok i0
      · exact .bind (hA 1 (by decide)) fun b hb => .ok (truthX_in _)
    rw [if_neg c2]
    by_cases c3 : e.op = 11
    · rw [if_pos c3]
      rw [c3] at hA
      refine .bind (hA 0 (by decide)) fun a ha => ?_
      split
      · exact .ok i1
      · exact .bind (hA 1 (by decide)) fun b hb => .ok (truthX_in _)
    rw [if_neg c3]
    by_cases c4 : e.op = 12
    · rw [if_pos c4]
      rw [c4] at hA
      exact .bind (hA 0 (by decide)) fun a ha => .ok (truthX_in _)
    rw [if_neg c4]
    by_cases c5 : e.op = 13
    · rw [if_pos c5]
      rw [c5] at hA
      refine .bind (hA 0 (by decide)) fun a ha => ?_
      split
      · exact hA 1 (by decide)
      · exact hA 2 (by decide)
    rw [if_neg c5]
    have ho : operandsI e.op = 2 := by unfold operandsI; split <;> first | omega | (split <;> first | omega | (split <;> first | omega | (split <;> omega)))
    rw [ho] at hA
    exact .bind (hA 0 (by decide)) fun a ha => .bind (hA 1 (by decide)) fun b hb => .ret (fun v hv => binX_in ha hb hv) (fun e he => by rcases binX_err he with h | h <;> omega)
theorem entX_in {r : Except Int Int} (h : ∀ v, r = .ok v → inC v) : inC (entX r).1 := by
  cases r with
  | ok v => exact h v rfl
  | error e => show inC 0; unfold inC; omega
theorem outX_in {v e : Int} (h : inC v) : ∀ w, outX v e = .ok w → inC w := fun w hw => by
  unfold outX at hw
  split at hw
  · cases hw; exact h
  · cases hw
theorem outX_err {v e w : Int} (hw : outX v e = .error w) : w ≠ 0 := by
  unfold outX at hw
  split at hw
  · cases hw
  · rename_i h; cases hw; exact h
theorem nmT_ok {lets : List Let} {given : List UInt8 → Option Int} (hl : ∀ l ∈ lets, rightB 12 l.body = true) (hg : ∀ s v, given s = some v → inC v) : ∀ n s, TMok lets.length (nmT lets given n s)
  | 0, s => by
    rw [nmT]
    cases hgs : given s with
    | some v => exact .ok (hg s v hgs)
    | none => exact .ret (fun v hv => by cases hv) (fun e he => by cases he; decide)
  | n + 1, s => by
    rw [nmT]
    cases hgs : given s with
    | some v => exact .ok (hg s v hgs)
    | none =>
      simp only
      cases hx : lets[n]? with
      | none => exact .ret (fun v hv => by cases hv) (fun e he => by cases he; decide)
      | some l =>
        simp only
        split
        · intro t ht
          have main : TabOK lets.length ((valT (nmT lets given n) (shareP (lets.take n)) l.body t).2.set n (entX (valT (nmT lets given n) (shareP (lets.take n)) l.body t).1)) ∧
              (∀ v, outX (entX (valT (nmT lets given n) (shareP (lets.take n)) l.body t).1).1 (entX (valT (nmT lets given n) (shareP (lets.take n)) l.body t).1).2.1 = .ok v → inC v) ∧
              (∀ e, outX (entX (valT (nmT lets given n) (shareP (lets.take n)) l.body t).1).1 (entX (valT (nmT lets given n) (shareP (lets.take n)) l.body t).1).2.1 = .error e → e ≠ 0) := by
            obtain ⟨g1, g2, g3⟩ := valT_ok (nmT_ok hl hg n) 12 l.body (hl l (List.mem_of_getElem? hx)) (sh := shareP (lets.take n)) t ht
            refine ⟨⟨by rw [List.length_set]; exact g1.len, fun i v e d hi => ?_⟩, outX_in (entX_in g2), fun e he => outX_err he⟩
            rw [List.getElem?_set] at hi
            split at hi
            · split at hi
              · have h5 := entX_in g2
                have h6 := Option.some.inj hi
                rw [h6] at h5
                exact h5
              · cases hi
            · exact g1.small i v e d hi
          rcases hti : t[n]? with _ | ⟨v, e, d⟩
          · simp only [hti]; exact main
          · cases d
            · simp only [hti]; exact main
            · simp only [hti]
              exact ⟨ht, outX_in (ht.small n v e true hti), fun e he => outX_err he⟩
        · exact nmT_ok hl hg n s
theorem valL_ok {lets : List Let} {given : List UInt8 → Option Int} (hl : ∀ l ∈ lets, rightB 12 l.body = true) (hg : ∀ s v, given s = some v → inC v) (n d : Nat) (e : Exp) (h : rightB d e = true) : TMok lets.length (valL lets given n e) :=
  valT_ok (nmT_ok hl hg n) d e h
end Go.Proofs.YtfcopibncpkdoaaDoor
namespace Go.Proofs.YtfcopibncpkdoaaDoor
open Go Go.VL
attribute [local simp] HS hcons hstep evPure opd uOf putOK St.put St.at getK binD binI binS binB nilD aggD eqUs cmpK lookD lookR rangeD nextD entryD keyD valU keyU lookK mkV entD_nil lookK_entD updK_entD1 updK_entD3 allUE allUE_entD makeMapD mapUpdD mapEff updK valM Key.kk shiftI arith unD convD pickD loadD cellsAt fieldAddrD fieldD indexAddrD indexD sliceD cutD lenD minmaxD nilCheckD buildD fillD cellsD isOne ones setAll mkAgg allU allocD boxD storeD St.add buildSliceD appendD rowsOf makeD setOb getK_setOb getK_del getK_cons stripL strip guardTmp entry chunks zcells valD argsV argsW argW argU1 argU0 argsU0 argsU1 calleeOf scalarD scalarU delAll effD St.effS RK_seq RK_seq_ret RK_seq_exit RK_blk RK_blk_ret RK_blk_exit RK_loop RK_loop_ret RK_loop_exit RK_done vs_seq vs_block vs_cond vs_region vs_loop vs_draw applyW mkD rdIds lentIds callOf calleeOf freeOp D.ids Op.operands Call.operands isEffOp makeIfD typeAssertD conc concs conc1 uOfV panicD IntKind.bits allU2 allU2_append List.take_of_length_le List.range_succ
attribute [local irreducible] V G H HD HD2 HD4 HD4h RetX RunK Eff CallP CallV EndOK Fun Ret FinOK LoopI LoopW EndW
theorem shareP_fun (lets : List Let) (e : Exp) : Fun Tryd.prog 99 [.u (letsU lets), eagg e] (· = .u (.bool (shareP lets e))) := by
  have h1 := judge_fun lets [] e
  have hk : okJ lets [] e = rightAll lets e := by simp [okJ]
  unfold shareP
  unfold judgeD at h1
  rw [hk] at h1
  cases hK : rightAll lets e
  · rw [hK] at h1
    simp only [letsU, varsU, eagg, Bool.false_eq_true, if_false, List.map_nil] at h1 ⊢
    (refine Fun.of_body Tryd.func99 rfl (by simp) fun Γ hn => ?_); simp only [entry, List.zipIdx_cons, List.zipIdx_nil, List.map_cons, List.map_nil, Nat.zero_add, Tryd.ntmps99]
    repeat' (first
    | (refine H_cons ?_; simp)
    | (refine H_nil ?_; simp)
    | (refine V_sseq ?_; simp)
    | (refine V_ret ?_; simp only [RunK])
    | (refine CallP.fun_ (h1) (by first | rfl | fail) (by first | assumption | (simp; done) | fail) (by first | (simp; done) | (simp; rfl) | fail) (by first | (simp; done) | fail) (fun d hd => ?_); subst hd; (try simp))
    | fail)
    (refine EndOK.val (.inr rfl) ?_; simp [resD, oneOrTup, pureD, Tryd.results99])
  · rw [hK] at h1
    have h2 := share_fun (gOf []) (mOf (gOf []) lets) 12 e (rights_out hK).2.1
    have hg : gOf [] = [] := rfl
    rw [hg] at h1 h2
    simp only [letsU, varsU, eagg, if_true, jU, List.map_nil] at h1 h2 ⊢
    generalize shareS (sF (mOf [] lets)) e = r at h2 ⊢
    (refine Fun.of_body Tryd.func99 rfl (by simp) fun Γ hn => ?_); simp only [entry, List.zipIdx_cons, List.zipIdx_nil, List.map_cons, List.map_nil, Nat.zero_add, Tryd.ntmps99]
    repeat' (first
    | (refine H_cons ?_; simp)
    | (refine H_nil ?_; simp)
    | (refine V_sseq ?_; simp)
    | (refine V_ret ?_; simp only [RunK])
    | (refine CallP.fun_ (h1) (by first | rfl | fail) (by first | assumption | (simp; done) | fail) (by first | (simp; done) | (simp; rfl) | fail) (by first | (simp; done) | fail) (fun d hd => ?_); subst hd; (try simp))
    | (refine CallP.fun_ (h2) (by first | rfl | fail) (by first | assumption | (simp; done) | fail) (by first | (simp; done) | (simp; rfl) | fail) (by first | (simp; done) | fail) (fun d hd => ?_); subst hd; (try simp))
    | fail)
    (refine EndOK.val (.inr rfl) ?_; simp [resD, oneOrTup, pureD, Tryd.results99])
/-- The panic of a fault. -/
def chF (e : Int) : List PanicEntry := [{ v := .iface 93 (.agg #[.int .i64 e]), recovered := false }]
def outV : Except Int Int → Out
  | .ok v => .val (.u (.int .i64 v))
  | .error e => .pan (chF e)
theorem truth_fun (b : Bool) : Fun Tryd.prog 75 [.u (.bool b)] (· = .u (.int .i64 (truthX b))) := by
  cases b
  all_goals
    (refine Fun.of_body Tryd.func75 rfl (by simp) fun Γ hn => ?_); simp only [entry, List.zipIdx_cons, List.zipIdx_nil, List.map_cons, List.map_nil, Nat.zero_add, Tryd.ntmps75]
    repeat' (first
    | (refine H_cons ?_; simp)
    | (refine H_nil ?_; simp)
    | (refine V_sseq ?_; simp)
    | (refine V_scond ?_; simp)
    | (refine V_ret ?_; simp only [RunK])
    | (refine V_skip ?_; simp only [RunK])
    | fail)
    (refine EndOK.val (.inr rfl) ?_; simp [resD, oneOrTup, pureD, Tryd.results75])
  all_goals (try rfl)
theorem check_ret (n : Int) (nx : Nat) : RetX Tryd.prog 73 [.u (.int .i64 n)] [] nx (fun r o m => r = outV (keptX n) ∧ o = [] ∧ m = nx) := by
  unfold keptX
  by_cases h1 : 1099511627776 < n
  · (refine RetX.of_bodyW Tryd.func73 rfl (by simp) fun Γ hn hpan => ?_); simp only [entry, List.zipIdx_cons, List.zipIdx_nil, List.map_cons, List.map_nil, Nat.zero_add, Tryd.ntmps73]
    repeat' (first
    | (refine H_cons ?_; simp [h1])
    | (refine H_nil ?_; simp [h1])
    | (refine V_sseq ?_; simp [h1])
    | (refine V_scond ?_; simp [h1])
    | (refine V_sregion ?_; simp [h1])
    | fail)
    (refine hpan _ _ ⟨{ n := _, env := [], obs := [], next := nx }, (Wk.cut rfl (by simp [hn]) (by simp [wkO, getK_cons, getK, getK_append, getK_del, Ob.under, D.under, under_rowsD, under_entD]) (by simp [wkU, keepE, getK_cons, getK, D.under]) (by simp [wkE, keepE, getK_cons, getK])), by simp [hn], ?_⟩; try simp)
    all_goals try simp [h1, outV, chF]
  · by_cases h2 : n < -1099511627776
    · (refine RetX.of_bodyW Tryd.func73 rfl (by simp) fun Γ hn hpan => ?_); simp only [entry, List.zipIdx_cons, List.zipIdx_nil, List.map_cons, List.map_nil, Nat.zero_add, Tryd.ntmps73]
      repeat' (first
    | (refine H_cons ?_; simp [h1, h2])
    | (refine H_nil ?_; simp [h1, h2])
    | (refine V_sseq ?_; simp [h1, h2])
    | (refine V_scond ?_; simp [h1, h2])
    | (refine V_sregion ?_; simp [h1, h2])
    | fail)
      (refine hpan _ _ ⟨{ n := _, env := [], obs := [], next := nx }, (Wk.cut rfl (by simp [hn]) (by simp [wkO, getK_cons, getK, getK_append, getK_del, Ob.under, D.under, under_rowsD, under_entD]) (by simp [wkU, keepE, getK_cons, getK, D.under]) (by simp [wkE, keepE, getK_cons, getK])), by simp [hn], ?_⟩; try simp)
      all_goals try simp [h1, h2, outV, chF]
    · (refine RetX.of_bodyW Tryd.func73 rfl (by simp) fun Γ hn hpan => ?_); simp only [entry, List.zipIdx_cons, List.zipIdx_nil, List.map_cons, List.map_nil, Nat.zero_add, Tryd.ntmps73]
      repeat' (first
    | (refine H_cons ?_; simp [h1, h2])
    | (refine H_nil ?_; simp [h1, h2])
    | (refine V_sseq ?_; simp [h1, h2])
    | (refine V_scond ?_; simp [h1, h2])
    | (refine V_ret ?_; simp only [RunK])
    | (refine V_skip ?_; simp only [RunK])
    | fail)
      (refine EndW.here ?_; (first | (refine EndOK.fin (.inr rfl) ?_) | (refine EndOK.fin (.inl rfl) ?_)); simp [resD, oneOrTup, Tryd.results73]; refine FinOK.here (by simp) ?_; try simp)
      all_goals try simp [h1, h2, outV]
theorem tdiv_bound (a b : Int) (hb : b ≠ 0) : (a.tdiv b).natAbs ≤ a.natAbs := by
  rw [Int.natAbs_tdiv]
  exact Nat.div_le_self _ _
theorem tdiv_mul_bound (a b : Int) : (a.tdiv b * b).natAbs ≤ a.natAbs := by
  rw [Int.natAbs_mul, Int.natAbs_tdiv]
  exact Nat.div_mul_le_self _ _
theorem floor_fun (a b : Int) (ha : -1000000000000000000 ≤ a ∧ a ≤ 1000000000000000000) (hb : b ≠ 0) (hb2 : -1000000000000000000 ≤ b ∧ b ≤ 1000000000000000000) :
    Fun Tryd.prog 101 [.u (.int .i64 a), .u (.int .i64 b)] (· = .u (.int .i64 (floorX a b))) := by
  have h1 := tdiv_bound a b hb
  have h2 := tdiv_mul_bound a b
  unfold floorX
  generalize hq : a.tdiv b = q at *
  generalize hp : q * b = p at *
  by_cases c1 : p = a
  · (refine Fun.of_body Tryd.func101 rfl (by simp) fun Γ hn => ?_); simp only [entry, List.zipIdx_cons, List.zipIdx_nil, List.map_cons, List.map_nil, Nat.zero_add, Tryd.ntmps101]
    repeat' (first
    | (refine H_cons ?_; simp [hb, hq, hp, c1])
    | (refine H_nil ?_; simp [hb, hq, hp, c1])
    | (refine ⟨by omega, ?_⟩)
    | (refine V_sseq ?_; simp [hb, hq, hp, c1])
    | (refine V_scond ?_; simp [hb, hq, hp, c1])
    | (refine V_ret ?_; simp only [RunK])
    | (refine V_skip ?_; simp only [RunK])
    | fail)
    (refine EndOK.val (.inr rfl) ?_; simp [resD, oneOrTup, pureD, Tryd.results101])
    all_goals try simp [c1]
  · by_cases c2 : a < 0 <;> by_cases c3 : b < 0
    all_goals
      (refine Fun.of_body Tryd.func101 rfl (by simp) fun Γ hn => ?_); simp only [entry, List.zipIdx_cons, List.zipIdx_nil, List.map_cons, List.map_nil, Nat.zero_add, Tryd.ntmps101]
      repeat' (first
    | (refine H_cons ?_; simp [hb, hq, hp, c1, c2, c3])
    | (refine H_nil ?_; simp [hb, hq, hp, c1, c2, c3])
    | (refine ⟨by omega, ?_⟩)
    | (refine V_sseq ?_; simp [hb, hq, hp, c1, c2, c3])
    | (refine V_scond ?_; simp [hb, hq, hp, c1, c2, c3])
    | (refine V_sregion ?_; simp [hb, hq, hp, c1, c2, c3])
    | (refine V_ret ?_; simp only [RunK])
    | (refine V_skip ?_; simp only [RunK])
    | fail)
      (refine EndOK.val (.inr rfl) ?_; simp [resD, oneOrTup, pureD, Tryd.results101])
    all_goals simp [c1, c2, c3]
theorem prod_bound {a b L : Int} (hL : 0 ≤ L) (h1 : ¬ L.tdiv (max a (-a)) < b) (h2 : ¬ b < (-L).tdiv (max a (-a))) : -L ≤ a * b ∧ a * b ≤ L := by
  have hm : (max a (-a)).natAbs = a.natAbs := by omega
  have h3 : (L.tdiv (max a (-a))).natAbs * a.natAbs ≤ L.natAbs := by
    rw [Int.natAbs_tdiv, hm]
    exact Nat.div_mul_le_self _ _
  have h4 : ((-L).tdiv (max a (-a))).natAbs * a.natAbs ≤ L.natAbs := by
    rw [Int.natAbs_tdiv, hm, Int.natAbs_neg]
    exact Nat.div_mul_le_self _ _
  have h5 : b.natAbs ≤ max (L.tdiv (max a (-a))).natAbs ((-L).tdiv (max a (-a))).natAbs := by omega
  have h6 : (a * b).natAbs ≤ L.natAbs := by
    rw [Int.natAbs_mul, Nat.mul_comm]
    refine Nat.le_trans (Nat.mul_le_mul_right _ h5) ?_
    rcases Nat.le_total (L.tdiv (max a (-a))).natAbs ((-L).tdiv (max a (-a))).natAbs with h | h
    · rw [Nat.max_eq_right h]; exact h4
    · rw [Nat.max_eq_left h]; exact h3
  omega
theorem product_ret (a b c : Int) (nx : Nat) (ha : inC a) (hb : inC b) (hc : 1 ≤ c ∧ c ≤ 1000) :
    RetX Tryd.prog 100 [.u (.int .i64 a), .u (.int .i64 b), .u (.int .i64 c)] [] nx (fun r o m => r = outV (prodX a b c) ∧ o = [] ∧ m = nx) := by
  unfold inC at ha hb
  unfold prodX
  have hm : a ≠ 0 → max a (-a) ≠ 0 := by omega
  have hL := prod_bound (a := a) (b := b) (L := 1099511627777 * c) (by omega)
  have q1 := tdiv_bound (1099511627777 * c) (max a (-a))
  have q2 := tdiv_bound (-(1099511627777 * c)) (max a (-a))
  generalize hl : (1099511627777 * c : Int) = L at *
  generalize hM : max a (-a) = M at *
  generalize hq1 : L.tdiv M = Q1 at *
  generalize hq2 : (-L).tdiv M = Q2 at *
  by_cases c0 : a = 0
  · subst c0
    have hf := floor_fun 0 c (by omega) (by omega) (by omega)
    have hck := fun nx' => check_ret (floorX 0 c) nx'
    rw [if_neg (by simp)]
    simp only [Int.zero_mul]
    cases hk : keptX (floorX 0 c) with
    | ok v =>
      simp only [hk, outV] at hck ⊢
      (refine RetX.of_bodyW Tryd.func100 rfl (by simp) fun Γ hn hpan => ?_); simp only [entry, List.zipIdx_cons, List.zipIdx_nil, List.map_cons, List.map_nil, Nat.zero_add, Tryd.ntmps100]
      repeat' (first
    | (refine H_cons ?_; simp [hl, hM, hq1, hq2])
    | (refine H_nil ?_; simp [hl, hM, hq1, hq2])
    | (refine ⟨by omega, ?_⟩)
    | (refine V_sseq ?_; simp [hl, hM, hq1, hq2])
    | (refine V_scond ?_; simp [hl, hM, hq1, hq2])
    | (refine V_ret ?_; simp only [RunK])
    | (refine V_skip ?_; simp only [RunK])
    | (refine CallP.fun_ (hf) (by first | rfl | fail) (by first | assumption | (simp; done) | fail) (by first | (simp [hl, hM, hq1, hq2]; done) | (simp [hl, hM, hq1, hq2]; rfl) | fail) (by first | (simp; done) | fail) (fun d hd => ?_); subst hd; (try simp [hl, hM, hq1, hq2]))
    | (refine CallP.okL (hck _) (by first | (simp [hl, hM, hq1, hq2, getK_cons, getK, getK_append, getK_del, getK_setOb, applyW, del]; done) | fail) (by rfl) (by first | assumption | (simp; done) | fail) (by rfl) (by simp) ?_; (try simp [hl, hM, hq1, hq2, delL, del]))
    | fail)
      (refine EndW.here ?_; (first | (refine EndOK.fin (.inr rfl) ?_) | (refine EndOK.fin (.inl rfl) ?_)); simp [resD, oneOrTup, Tryd.results100]; refine FinOK.here (by simp) ?_; try simp)
    | error e =>
      simp only [hk, outV] at hck ⊢
      (refine RetX.of_bodyW Tryd.func100 rfl (by simp) fun Γ hn hpan => ?_); simp only [entry, List.zipIdx_cons, List.zipIdx_nil, List.map_cons, List.map_nil, Nat.zero_add, Tryd.ntmps100]
      repeat' (first
    | (refine H_cons ?_; simp [hl, hM, hq1, hq2])
    | (refine H_nil ?_; simp [hl, hM, hq1, hq2])
    | (refine ⟨by omega, ?_⟩)
    | (refine V_sseq ?_; simp [hl, hM, hq1, hq2])
    | (refine V_scond ?_; simp [hl, hM, hq1, hq2])
    | (refine V_skip ?_; simp only [RunK])
    | (refine CallP.fun_ (hf) (by first | rfl | fail) (by first | assumption | (simp; done) | fail) (by first | (simp [hl, hM, hq1, hq2]; done) | (simp [hl, hM, hq1, hq2]; rfl) | fail) (by first | (simp; done) | fail) (fun d hd => ?_); subst hd; (try simp [hl, hM, hq1, hq2]))
    | (refine CallP.panL (hck _) (by first | (simp [hl, hM, hq1, hq2, getK_cons, getK, getK_append, getK_del, getK_setOb, applyW, del]; done) | fail) (by rfl) (by first | assumption | (simp; done) | fail) (by rfl) (by simp) ?_; refine ⟨_, Wk.refl _, ?_⟩; (try simp [hl, hM, hq1, hq2, delL, del]))
    | fail)
      (refine hpan _ _ ⟨{ n := _, env := [], obs := [], next := nx }, (Wk.cut rfl (by simp [hn]) (by simp [wkO, getK_cons, getK, getK_append, getK_del, Ob.under, D.under, under_rowsD, under_entD]) (by simp [wkU, keepE, getK_cons, getK, D.under]) (by simp [wkE, keepE, getK_cons, getK])), by simp [hn], ?_⟩; try simp)
  have hM0 := hm c0
  have q1 := q1 hM0
  have q2 := q2 hM0
  by_cases c1 : Q1 < b
  · rw [if_pos ⟨c0, .inl c1⟩]
    (refine RetX.of_bodyW Tryd.func100 rfl (by simp) fun Γ hn hpan => ?_); simp only [entry, List.zipIdx_cons, List.zipIdx_nil, List.map_cons, List.map_nil, Nat.zero_add, Tryd.ntmps100]
    repeat' (first
    | (refine H_cons ?_; simp [c0, c1, hl, hM, hM0, hq1, hq2])
    | (refine H_nil ?_; simp [c0, c1, hl, hM, hM0, hq1, hq2])
    | (refine ⟨by omega, ?_⟩)
    | (refine V_sseq ?_; simp [c0, c1, hl, hM, hM0, hq1, hq2])
    | (refine V_scond ?_; simp [c0, c1, hl, hM, hM0, hq1, hq2])
    | (refine V_sregion ?_; simp [c0, c1, hl, hM, hM0, hq1, hq2])
    | fail)
    (refine hpan _ _ ⟨{ n := _, env := [], obs := [], next := nx }, (Wk.cut rfl (by simp [hn]) (by simp [wkO, getK_cons, getK, getK_append, getK_del, Ob.under, D.under, under_rowsD, under_entD]) (by simp [wkU, keepE, getK_cons, getK, D.under]) (by simp [wkE, keepE, getK_cons, getK])), by simp [hn], ?_⟩; try simp)
    all_goals (try simp [outV, chF])
  by_cases c2 : b < Q2
  · rw [if_pos ⟨c0, .inr c2⟩]
    (refine RetX.of_bodyW Tryd.func100 rfl (by simp) fun Γ hn hpan => ?_); simp only [entry, List.zipIdx_cons, List.zipIdx_nil, List.map_cons, List.map_nil, Nat.zero_add, Tryd.ntmps100]
    repeat' (first
    | (refine H_cons ?_; simp [c0, c1, c2, hl, hM, hM0, hq1, hq2])
    | (refine H_nil ?_; simp [c0, c1, c2, hl, hM, hM0, hq1, hq2])
    | (refine ⟨by omega, ?_⟩)
    | (refine V_sseq ?_; simp [c0, c1, c2, hl, hM, hM0, hq1, hq2])
    | (refine V_scond ?_; simp [c0, c1, c2, hl, hM, hM0, hq1, hq2])
    | (refine V_sregion ?_; simp [c0, c1, c2, hl, hM, hM0, hq1, hq2])
    | fail)
    (refine hpan _ _ ⟨{ n := _, env := [], obs := [], next := nx }, (Wk.cut rfl (by simp [hn]) (by simp [wkO, getK_cons, getK, getK_append, getK_del, Ob.under, D.under, under_rowsD, under_entD]) (by simp [wkU, keepE, getK_cons, getK, D.under]) (by simp [wkE, keepE, getK_cons, getK])), by simp [hn], ?_⟩; try simp)
    all_goals (try simp [outV, chF])
  rw [if_neg (by rintro ⟨_, h | h⟩ <;> contradiction)]
  obtain ⟨hL1, hL2⟩ := hL c1 c2
  have hf := floor_fun (a * b) c (by omega) (by omega) (by omega)
  have hck := fun nx' => check_ret (floorX (a * b) c) nx'
  cases hk : keptX (floorX (a * b) c) with
  | ok v =>
    simp only [hk, outV] at hck ⊢
    (refine RetX.of_bodyW Tryd.func100 rfl (by simp) fun Γ hn hpan => ?_); simp only [entry, List.zipIdx_cons, List.zipIdx_nil, List.map_cons, List.map_nil, Nat.zero_add, Tryd.ntmps100]
    repeat' (first
    | (refine H_cons ?_; simp [c0, c1, c2, hl, hM, hM0, hq1, hq2])
    | (refine H_nil ?_; simp [c0, c1, c2, hl, hM, hM0, hq1, hq2])
    | (refine ⟨by omega, ?_⟩)
    | (refine V_sseq ?_; simp [c0, c1, c2, hl, hM, hM0, hq1, hq2])
    | (refine V_scond ?_; simp [c0, c1, c2, hl, hM, hM0, hq1, hq2])
    | (refine V_ret ?_; simp only [RunK])
    | (refine V_skip ?_; simp only [RunK])
    | (refine CallP.fun_ (hf) (by first | rfl | fail) (by first | assumption | (simp; done) | fail) (by first | (simp [c0, c1, c2, hl, hM, hM0, hq1, hq2]; done) | (simp [c0, c1, c2, hl, hM, hM0, hq1, hq2]; rfl) | fail) (by first | (simp; done) | fail) (fun d hd => ?_); subst hd; (try simp [c0, c1, c2, hl, hM, hM0, hq1, hq2]))
    | (refine CallP.okL (hck _) (by first | (simp [c0, c1, c2, hl, hM, hM0, hq1, hq2, getK_cons, getK, getK_append, getK_del, getK_setOb, applyW, del]; done) | fail) (by rfl) (by first | assumption | (simp; done) | fail) (by rfl) (by simp) ?_; (try simp [c0, c1, c2, hl, hM, hM0, hq1, hq2, delL, del]))
    | fail)
    (refine EndW.here ?_; (first | (refine EndOK.fin (.inr rfl) ?_) | (refine EndOK.fin (.inl rfl) ?_)); simp [resD, oneOrTup, Tryd.results100]; refine FinOK.here (by simp) ?_; try simp)
  | error e =>
    simp only [hk, outV] at hck ⊢
    (refine RetX.of_bodyW Tryd.func100 rfl (by simp) fun Γ hn hpan => ?_); simp only [entry, List.zipIdx_cons, List.zipIdx_nil, List.map_cons, List.map_nil, Nat.zero_add, Tryd.ntmps100]
    repeat' (first
    | (refine H_cons ?_; simp [c0, c1, c2, hl, hM, hM0, hq1, hq2])
    | (refine H_nil ?_; simp [c0, c1, c2, hl, hM, hM0, hq1, hq2])
    | (refine ⟨by omega, ?_⟩)
    | (refine V_sseq ?_; simp [c0, c1, c2, hl, hM, hM0, hq1, hq2])
    | (refine V_scond ?_; simp [c0, c1, c2, hl, hM, hM0, hq1, hq2])
    | (refine V_skip ?_; simp only [RunK])
    | (refine CallP.fun_ (hf) (by first | rfl | fail) (by first | assumption | (simp; done) | fail) (by first | (simp [c0, c1, c2, hl, hM, hM0, hq1, hq2]; done) | (simp [c0, c1, c2, hl, hM, hM0, hq1, hq2]; rfl) | fail) (by first | (simp; done) | fail) (fun d hd => ?_); subst hd; (try simp [c0, c1, c2, hl, hM, hM0, hq1, hq2]))
    | (refine CallP.panL (hck _) (by first | (simp [c0, c1, c2, hl, hM, hM0, hq1, hq2, getK_cons, getK, getK_append, getK_del, getK_setOb, applyW, del]; done) | fail) (by rfl) (by first | assumption | (simp; done) | fail) (by rfl) (by simp) ?_; refine ⟨_, Wk.refl _, ?_⟩; (try simp [c0, c1, c2, hl, hM, hM0, hq1, hq2, delL, del]))
    | fail)
    (refine hpan _ _ ⟨{ n := _, env := [], obs := [], next := nx }, (Wk.cut rfl (by simp [hn]) (by simp [wkO, getK_cons, getK, getK_append, getK_del, Ob.under, D.under, under_rowsD, under_entD]) (by simp [wkU, keepE, getK_cons, getK, D.under]) (by simp [wkE, keepE, getK_cons, getK])), by simp [hn], ?_⟩; try simp)

abbrev mOb (lets : List Let) (r : Nat) (g : GM) : Ob := .box [.u (letsU lets), .vec r lets.length, .u (.map .s false (gmap g))]
theorem binary_ret (lets : List Let) (r : Nat) (g : GM) (m nx : Nat) (hm : m < nx) (hr : r < nx) (e x y : Exp) (a b : Int) (n : Nat) (hnl : n ≤ lets.length) (hl : lets.length ≤ 20) (he : e.args = [x, y]) (ha : inC a) (hb : inC b)
    (hop : 2 ≤ e.op ∧ e.op ≤ 9) :
    RetX Tryd.prog 76 [.ptr m 0, eagg e, .u (.int .i64 a), .u (.int .i64 b), .u (.int .i64 n)] [(m, mOb lets r g)] nx
      (fun o obs n' => o = outV (binX e.op (shareP (lets.take n) x || shareP (lets.take n) y) a b) ∧ obs = [(m, mOb lets r g)] ∧ n' = nx) := by
  have hne := nef hm
  have hab := ha
  have hbb := hb
  unfold inC at ha hb
  have hf := truth_fun true
  unfold mOb letsU eagg
  rw [he]
  simp only [List.map_cons, List.map_nil]
  by_cases c : e.op = 2
  · obtain ⟨Z, hZ⟩ : ∃ Z, a + b = Z := ⟨_, rfl⟩
    have hck := fun nx' => check_ret Z nx'
    rw [c, show ∀ sh, binX 2 sh a b = keptX Z from fun sh => by rw [← hZ]; rfl]
    cases hk : keptX Z with
    | ok v =>
      simp only [hk, outV] at hck ⊢
      (refine RetX.of_bodyW Tryd.func76 rfl (by simp) fun Γ hn hpan => ?_); simp only [entry, List.zipIdx_cons, List.zipIdx_nil, List.map_cons, List.map_nil, Nat.zero_add, Tryd.ntmps76]
      repeat' (first
    | (refine H_cons ?_; simp [c, hne, hZ])
    | (refine H_nil ?_; simp [c, hne, hZ])
    | (refine ⟨by omega, ?_⟩)
    | (refine V_sseq ?_; simp [c, hne, hZ])
    | (refine V_scond ?_; simp [c, hne, hZ])
    | (refine V_sblock ?_; simp [c, hne, hZ])
    | (refine V_ret ?_; simp only [RunK])
    | (refine CallP.okL (hck _) (by first | (simp [c, hne, hZ, getK_cons, getK, getK_append, getK_del, getK_setOb, applyW, del]; done) | fail) (by rfl) (by first | assumption | (simp; done) | fail) (by rfl) (by simp) ?_; (try simp [c, hne, hZ, delL, del]))
    | fail)
      (refine EndW.here ?_; (first | (refine EndOK.fin (.inr rfl) ?_) | (refine EndOK.fin (.inl rfl) ?_)); simp [resD, oneOrTup, Tryd.results76, hne, hm, hr, letsU]; refine FinOK.cut [(m, mOb lets r g)] (nx) (by simp [getK_cons, getK, getK_append, getK_del, Ob.under, D.under, under_rowsD, under_entD, hne, hm, hr, letsU] <;> omega) (by simp [D.under]) (by simp [hn]) ?_; try simp)
      all_goals rfl
    | error err =>
      simp only [hk, outV] at hck ⊢
      (refine RetX.of_bodyW Tryd.func76 rfl (by simp) fun Γ hn hpan => ?_); simp only [entry, List.zipIdx_cons, List.zipIdx_nil, List.map_cons, List.map_nil, Nat.zero_add, Tryd.ntmps76]
      repeat' (first
    | (refine H_cons ?_; simp [c, hne, hZ])
    | (refine H_nil ?_; simp [c, hne, hZ])
    | (refine ⟨by omega, ?_⟩)
    | (refine V_sseq ?_; simp [c, hne, hZ])
    | (refine V_scond ?_; simp [c, hne, hZ])
    | (refine V_sblock ?_; simp [c, hne, hZ])
    | (refine CallP.panL (hck _) (by first | (simp [c, hne, hZ, getK_cons, getK, getK_append, getK_del, getK_setOb, applyW, del]; done) | fail) (by rfl) (by first | assumption | (simp; done) | fail) (by rfl) (by simp) ?_; refine ⟨_, Wk.refl _, ?_⟩; (try simp [c, hne, hZ, delL, del]))
    | fail)
      (refine hpan _ _ ⟨{ n := _, env := [], obs := [(m, mOb lets r g)], next := nx }, (Wk.cut rfl (by simp [hn]) (by simp [wkO, getK_cons, getK, getK_append, getK_del, Ob.under, D.under, under_rowsD, under_entD, hm, hr, hne, letsU, getK_append, getK_del, getK_cons, getK]) (by simp [wkU, keepE, getK_cons, getK, D.under, hm, hr, hne, letsU, getK_append, getK_del, getK_cons, getK]) (by simp [wkE, keepE, getK_cons, getK, hm, hr, hne, letsU, getK_append, getK_del, getK_cons, getK])), by simp [hn], ?_⟩; try simp)
      all_goals rfl
  by_cases c : e.op = 3
  · obtain ⟨Z, hZ⟩ : ∃ Z, a - b = Z := ⟨_, rfl⟩
    have hck := fun nx' => check_ret Z nx'
    rw [c, show ∀ sh, binX 3 sh a b = keptX Z from fun sh => by rw [← hZ]; rfl]
    cases hk : keptX Z with
    | ok v =>
      simp only [hk, outV] at hck ⊢
      (refine RetX.of_bodyW Tryd.func76 rfl (by simp) fun Γ hn hpan => ?_); simp only [entry, List.zipIdx_cons, List.zipIdx_nil, List.map_cons, List.map_nil, Nat.zero_add, Tryd.ntmps76]
      repeat' (first
    | (refine H_cons ?_; simp [c, hne, hZ])
    | (refine H_nil ?_; simp [c, hne, hZ])
    | (refine ⟨by omega, ?_⟩)
    | (refine V_sseq ?_; simp [c, hne, hZ])
    | (refine V_scond ?_; simp [c, hne, hZ])
    | (refine V_sblock ?_; simp [c, hne, hZ])
    | (refine V_ret ?_; simp only [RunK])
    | (refine CallP.okL (hck _) (by first | (simp [c, hne, hZ, getK_cons, getK, getK_append, getK_del, getK_setOb, applyW, del]; done) | fail) (by rfl) (by first | assumption | (simp; done) | fail) (by rfl) (by simp) ?_; (try simp [c, hne, hZ, delL, del]))
    | fail)
      (refine EndW.here ?_; (first | (refine EndOK.fin (.inr rfl) ?_) | (refine EndOK.fin (.inl rfl) ?_)); simp [resD, oneOrTup, Tryd.results76, hne, hm, hr, letsU]; refine FinOK.cut [(m, mOb lets r g)] (nx) (by simp [getK_cons, getK, getK_append, getK_del, Ob.under, D.under, under_rowsD, under_entD, hne, hm, hr, letsU] <;> omega) (by simp [D.under]) (by simp [hn]) ?_; try simp)
      all_goals rfl
    | error err =>
      simp only [hk, outV] at hck ⊢
      (refine RetX.of_bodyW Tryd.func76 rfl (by simp) fun Γ hn hpan => ?_); simp only [entry, List.zipIdx_cons, List.zipIdx_nil, List.map_cons, List.map_nil, Nat.zero_add, Tryd.ntmps76]
      repeat' (first
    | (refine H_cons ?_; simp [c, hne, hZ])
    | (refine H_nil ?_; simp [c, hne, hZ])
    | (refine ⟨by omega, ?_⟩)
    | (refine V_sseq ?_; simp [c, hne, hZ])
    | (refine V_scond ?_; simp [c, hne, hZ])
    | (refine V_sblock ?_; simp [c, hne, hZ])
    | (refine CallP.panL (hck _) (by first | (simp [c, hne, hZ, getK_cons, getK, getK_append, getK_del, getK_setOb, applyW, del]; done) | fail) (by rfl) (by first | assumption | (simp; done) | fail) (by rfl) (by simp) ?_; refine ⟨_, Wk.refl _, ?_⟩; (try simp [c, hne, hZ, delL, del]))
    | fail)
      (refine hpan _ _ ⟨{ n := _, env := [], obs := [(m, mOb lets r g)], next := nx }, (Wk.cut rfl (by simp [hn]) (by simp [wkO, getK_cons, getK, getK_append, getK_del, Ob.under, D.under, under_rowsD, under_entD, hm, hr, hne, letsU, getK_append, getK_del, getK_cons, getK]) (by simp [wkU, keepE, getK_cons, getK, D.under, hm, hr, hne, letsU, getK_append, getK_del, getK_cons, getK]) (by simp [wkE, keepE, getK_cons, getK, hm, hr, hne, letsU, getK_append, getK_del, getK_cons, getK])), by simp [hn], ?_⟩; try simp)
      all_goals rfl
  by_cases c : e.op = 4
  · have hs1 := shareP_fun (lets.take n) x
    have hs2 := shareP_fun (lets.take n) y
    rw [c]
    simp only [letsU, List.map_take, eagg] at hs1 hs2
    rw [Exp.row_eq x, Exp.row_eq y]
    cases hx : shareP (lets.take n) x
    · rw [hx] at hs1
      cases hy : shareP (lets.take n) y
      · rw [hy] at hs2
        have hck := fun nx' => product_ret a b 1 nx' hab hbb (by omega)
        rw [show binX 4 (false || false) a b = prodX a b 1 from rfl]
        cases hk : prodX a b 1 with
        | ok v =>
          simp only [hk, outV] at hck ⊢
          (refine RetX.of_bodyW Tryd.func76 rfl (by simp) fun Γ hn hpan => ?_); simp only [entry, List.zipIdx_cons, List.zipIdx_nil, List.map_cons, List.map_nil, Nat.zero_add, Tryd.ntmps76]
          repeat' (first
    | (refine H_cons ?_; simp [c, hne, del])
    | (refine HD4_val rfl ?_; simp [c, hne, del])
    | (refine HD4h_val rfl ?_; simp [c, hne, del])
    | (refine H_nil ?_; simp [c, hne, del])
    | (refine ⟨by omega, ?_⟩)
    | (refine V_sseq ?_; simp [c, hne, del])
    | (refine V_scond ?_; simp [c, hne, del])
    | (refine HD4_nil (hC _ (okP4_ren [m] nx (by simp <;> omega) (by simp <;> omega) (by apply Exists.intro; apply And.intro; (focus (repeat' (first | exact KF.nil | exact KL.nil | apply KF.cons | apply KL.cons 0 rfl | apply KL.cons 1 rfl | apply KL.cons 2 rfl | apply KL.cons 3 rfl | apply KL.cons 4 rfl | apply KL.cons 5 rfl | apply KL.cons 6 rfl | apply KL.cons 7 rfl | apply KL.cons 8 rfl | apply KL.cons 9 rfl))); kernel_rfl))) (hk _ ?_); clear hC hk C k; simp only [RunK])
    | (refine V_drawX rfl (by kernel_rfl) (by first | (simp [hn]; done) | (simp [hn]; omega) | fail) fun C k hC hk => ?_; simp [c, hne, del])
    | (refine HD4_guard rfl (by simp [c, hne, del]) (fun hc => ?_) (fun hc => ?_) <;> (try simp [c, hne, del] at hc) <;> (try (exfalso; omega)) <;> (try simp [c, hne, del]))
    | (refine V_sblock ?_; simp [c, hne, del])
    | (refine V_ret ?_; simp only [RunK])
    | (refine V_skip ?_; simp only [RunK])
    | (refine CallV.fun_ (hs1) (by first | rfl | fail) (by first | assumption | (simp; done) | fail) (by first | (simp [c, hne, del]; done) | (simp [c, hne, del]; rfl) | fail) (by first | (simp; done) | fail) ?_ <;> (try simp [c, hne, del]))
    | (refine CallV.fun_ (hs2) (by first | rfl | fail) (by first | assumption | (simp; done) | fail) (by first | (simp [c, hne, del]; done) | (simp [c, hne, del]; rfl) | fail) (by first | (simp; done) | fail) ?_ <;> (try simp [c, hne, del]))
    | (refine CallP.okL (hck _) (by first | (simp [c, hne, del, getK_cons, getK, getK_append, getK_del, getK_setOb, applyW, del]; done) | fail) (by rfl) (by first | assumption | (simp; done) | fail) (by rfl) (by simp) ?_; (try simp [c, hne, del, delL, del]))
    | fail)
          (refine EndW.here ?_; (first | (refine EndOK.fin (.inr rfl) ?_) | (refine EndOK.fin (.inl rfl) ?_)); simp [resD, oneOrTup, Tryd.results76, hne, hm, hr, letsU]; refine FinOK.cut [(m, mOb lets r g)] (nx) (by simp [getK_cons, getK, getK_append, getK_del, Ob.under, D.under, under_rowsD, under_entD, hne, hm, hr, letsU] <;> omega) (by simp [D.under]) (by simp [hn]) ?_; try simp)
          all_goals rfl
        | error err =>
          simp only [hk, outV] at hck ⊢
          (refine RetX.of_bodyW Tryd.func76 rfl (by simp) fun Γ hn hpan => ?_); simp only [entry, List.zipIdx_cons, List.zipIdx_nil, List.map_cons, List.map_nil, Nat.zero_add, Tryd.ntmps76]
          repeat' (first
    | (refine H_cons ?_; simp [c, hne, del])
    | (refine HD4_val rfl ?_; simp [c, hne, del])
    | (refine HD4h_val rfl ?_; simp [c, hne, del])
    | (refine H_nil ?_; simp [c, hne, del])
    | (refine ⟨by omega, ?_⟩)
    | (refine V_sseq ?_; simp [c, hne, del])
    | (refine V_scond ?_; simp [c, hne, del])
    | (refine HD4_nil (hC _ (okP4_ren [m] nx (by simp <;> omega) (by simp <;> omega) (by apply Exists.intro; apply And.intro; (focus (repeat' (first | exact KF.nil | exact KL.nil | apply KF.cons | apply KL.cons 0 rfl | apply KL.cons 1 rfl | apply KL.cons 2 rfl | apply KL.cons 3 rfl | apply KL.cons 4 rfl | apply KL.cons 5 rfl | apply KL.cons 6 rfl | apply KL.cons 7 rfl | apply KL.cons 8 rfl | apply KL.cons 9 rfl))); kernel_rfl))) (hk _ ?_); clear hC hk C k; simp only [RunK])
    | (refine V_drawX rfl (by kernel_rfl) (by first | (simp [hn]; done) | (simp [hn]; omega) | fail) fun C k hC hk => ?_; simp [c, hne, del])
    | (refine HD4_guard rfl (by simp [c, hne, del]) (fun hc => ?_) (fun hc => ?_) <;> (try simp [c, hne, del] at hc) <;> (try (exfalso; omega)) <;> (try simp [c, hne, del]))
    | (refine V_sblock ?_; simp [c, hne, del])
    | (refine V_skip ?_; simp only [RunK])
    | (refine CallV.fun_ (hs1) (by first | rfl | fail) (by first | assumption | (simp; done) | fail) (by first | (simp [c, hne, del]; done) | (simp [c, hne, del]; rfl) | fail) (by first | (simp; done) | fail) ?_ <;> (try simp [c, hne, del]))
    | (refine CallV.fun_ (hs2) (by first | rfl | fail) (by first | assumption | (simp; done) | fail) (by first | (simp [c, hne, del]; done) | (simp [c, hne, del]; rfl) | fail) (by first | (simp; done) | fail) ?_ <;> (try simp [c, hne, del]))
    | (refine CallP.panL (hck _) (by first | (simp [c, hne, del, getK_cons, getK, getK_append, getK_del, getK_setOb, applyW, del]; done) | fail) (by rfl) (by first | assumption | (simp; done) | fail) (by rfl) (by simp) ?_; refine ⟨_, Wk.refl _, ?_⟩; (try simp [c, hne, del, delL, del]))
    | fail)
          (refine hpan _ _ ⟨{ n := _, env := [], obs := [(m, mOb lets r g)], next := nx }, (Wk.cut rfl (by simp [hn]) (by simp [wkO, getK_cons, getK, getK_append, getK_del, Ob.under, D.under, under_rowsD, under_entD, hm, hr, hne, letsU, getK_append, getK_del, getK_cons, getK]) (by simp [wkU, keepE, getK_cons, getK, D.under, hm, hr, hne, letsU, getK_append, getK_del, getK_cons, getK]) (by simp [wkE, keepE, getK_cons, getK, hm, hr, hne, letsU, getK_append, getK_del, getK_cons, getK])), by simp [hn], ?_⟩; try simp)
          all_goals rfl
      · rw [hy] at hs2
        have hck := fun nx' => product_ret a b 1000 nx' hab hbb (by omega)
        rw [show binX 4 (false || true) a b = prodX a b 1000 from rfl]
        cases hk : prodX a b 1000 with
        | ok v =>
          simp only [hk, outV] at hck ⊢
          (refine RetX.of_bodyW Tryd.func76 rfl (by simp) fun Γ hn hpan => ?_); simp only [entry, List.zipIdx_cons, List.zipIdx_nil, List.map_cons, List.map_nil, Nat.zero_add, Tryd.ntmps76]
          repeat' (first
    | (refine H_cons ?_; simp [c, hne, del])
    | (refine HD4_val rfl ?_; simp [c, hne, del])
    | (refine HD4h_val rfl ?_; simp [c, hne, del])
    | (refine H_nil ?_; simp [c, hne, del])
    | (refine ⟨by omega, ?_⟩)
    | (refine V_sseq ?_; simp [c, hne, del])
    | (refine V_scond ?_; simp [c, hne, del])
    | (refine HD4_nil (hC _ (okP4_ren [m] nx (by simp <;> omega) (by simp <;> omega) (by apply Exists.intro; apply And.intro; (focus (repeat' (first | exact KF.nil | exact KL.nil | apply KF.cons | apply KL.cons 0 rfl | apply KL.cons 1 rfl | apply KL.cons 2 rfl | apply KL.cons 3 rfl | apply KL.cons 4 rfl | apply KL.cons 5 rfl | apply KL.cons 6 rfl | apply KL.cons 7 rfl | apply KL.cons 8 rfl | apply KL.cons 9 rfl))); kernel_rfl))) (hk _ ?_); clear hC hk C k; simp only [RunK])
    | (refine V_drawX rfl (by kernel_rfl) (by first | (simp [hn]; done) | (simp [hn]; omega) | fail) fun C k hC hk => ?_; simp [c, hne, del])
    | (refine HD4_guard rfl (by simp [c, hne, del]) (fun hc => ?_) (fun hc => ?_) <;> (try simp [c, hne, del] at hc) <;> (try (exfalso; omega)) <;> (try simp [c, hne, del]))
    | (refine V_sblock ?_; simp [c, hne, del])
    | (refine V_ret ?_; simp only [RunK])
    | (refine CallV.fun_ (hs1) (by first | rfl | fail) (by first | assumption | (simp; done) | fail) (by first | (simp [c, hne, del]; done) | (simp [c, hne, del]; rfl) | fail) (by first | (simp; done) | fail) ?_ <;> (try simp [c, hne, del]))
    | (refine CallV.fun_ (hs2) (by first | rfl | fail) (by first | assumption | (simp; done) | fail) (by first | (simp [c, hne, del]; done) | (simp [c, hne, del]; rfl) | fail) (by first | (simp; done) | fail) ?_ <;> (try simp [c, hne, del]))
    | (refine CallP.okL (hck _) (by first | (simp [c, hne, del, getK_cons, getK, getK_append, getK_del, getK_setOb, applyW, del]; done) | fail) (by rfl) (by first | assumption | (simp; done) | fail) (by rfl) (by simp) ?_; (try simp [c, hne, del, delL, del]))
    | fail)
          (refine EndW.here ?_; (first | (refine EndOK.fin (.inr rfl) ?_) | (refine EndOK.fin (.inl rfl) ?_)); simp [resD, oneOrTup, Tryd.results76, hne, hm, hr, letsU]; refine FinOK.cut [(m, mOb lets r g)] (nx) (by simp [getK_cons, getK, getK_append, getK_del, Ob.under, D.under, under_rowsD, under_entD, hne, hm, hr, letsU] <;> omega) (by simp [D.under]) (by simp [hn]) ?_; try simp)
          all_goals rfl
        | error err =>
          simp only [hk, outV] at hck ⊢
          (refine RetX.of_bodyW Tryd.func76 rfl (by simp) fun Γ hn hpan => ?_); simp only [entry, List.zipIdx_cons, List.zipIdx_nil, List.map_cons, List.map_nil, Nat.zero_add, Tryd.ntmps76]
          repeat' (first
    | (refine H_cons ?_; simp [c, hne, del])
    | (refine HD4_val rfl ?_; simp [c, hne, del])
    | (refine HD4h_val rfl ?_; simp [c, hne, del])
    | (refine H_nil ?_; simp [c, hne, del])
    | (refine ⟨by omega, ?_⟩)
    | (refine V_sseq ?_; simp [c, hne, del])
    | (refine V_scond ?_; simp [c, hne, del])
    | (refine HD4_nil (hC _ (okP4_ren [m] nx (by simp <;> omega) (by simp <;> omega) (by apply Exists.intro; apply And.intro; (focus (repeat' (first | exact KF.nil | exact KL.nil | apply KF.cons | apply KL.cons 0 rfl | apply KL.cons 1 rfl | apply KL.cons 2 rfl | apply KL.cons 3 rfl | apply KL.cons 4 rfl | apply KL.cons 5 rfl | apply KL.cons 6 rfl | apply KL.cons 7 rfl | apply KL.cons 8 rfl | apply KL.cons 9 rfl))); kernel_rfl))) (hk _ ?_); clear hC hk C k; simp only [RunK])
    | (refine V_drawX rfl (by kernel_rfl) (by first | (simp [hn]; done) | (simp [hn]; omega) | fail) fun C k hC hk => ?_; simp [c, hne, del])
    | (refine HD4_guard rfl (by simp [c, hne, del]) (fun hc => ?_) (fun hc => ?_) <;> (try simp [c, hne, del] at hc) <;> (try (exfalso; omega)) <;> (try simp [c, hne, del]))
    | (refine V_sblock ?_; simp [c, hne, del])
    | (refine CallV.fun_ (hs1) (by first | rfl | fail) (by first | assumption | (simp; done) | fail) (by first | (simp [c, hne, del]; done) | (simp [c, hne, del]; rfl) | fail) (by first | (simp; done) | fail) ?_ <;> (try simp [c, hne, del]))
    | (refine CallV.fun_ (hs2) (by first | rfl | fail) (by first | assumption | (simp; done) | fail) (by first | (simp [c, hne, del]; done) | (simp [c, hne, del]; rfl) | fail) (by first | (simp; done) | fail) ?_ <;> (try simp [c, hne, del]))
    | (refine CallP.panL (hck _) (by first | (simp [c, hne, del, getK_cons, getK, getK_append, getK_del, getK_setOb, applyW, del]; done) | fail) (by rfl) (by first | assumption | (simp; done) | fail) (by rfl) (by simp) ?_; refine ⟨_, Wk.refl _, ?_⟩; (try simp [c, hne, del, delL, del]))
    | fail)
          (refine hpan _ _ ⟨{ n := _, env := [], obs := [(m, mOb lets r g)], next := nx }, (Wk.cut rfl (by simp [hn]) (by simp [wkO, getK_cons, getK, getK_append, getK_del, Ob.under, D.under, under_rowsD, under_entD, hm, hr, hne, letsU, getK_append, getK_del, getK_cons, getK]) (by simp [wkU, keepE, getK_cons, getK, D.under, hm, hr, hne, letsU, getK_append, getK_del, getK_cons, getK]) (by simp [wkE, keepE, getK_cons, getK, hm, hr, hne, letsU, getK_append, getK_del, getK_cons, getK])), by simp [hn], ?_⟩; try simp)
          all_goals rfl
    · rw [hx] at hs1
      have hck := fun nx' => product_ret a b 1000 nx' hab hbb (by omega)
      rw [show ∀ z, binX 4 (true || z) a b = prodX a b 1000 from fun z => rfl]
      cases hk : prodX a b 1000 with
      | ok v =>
        simp only [hk, outV] at hck ⊢
        (refine RetX.of_bodyW Tryd.func76 rfl (by simp) fun Γ hn hpan => ?_); simp only [entry, List.zipIdx_cons, List.zipIdx_nil, List.map_cons, List.map_nil, Nat.zero_add, Tryd.ntmps76]
        repeat' (first
    | (refine H_cons ?_; simp [c, hne, del])
    | (refine HD4_val rfl ?_; simp [c, hne, del])
    | (refine H_nil ?_; simp [c, hne, del])
    | (refine ⟨by omega, ?_⟩)
    | (refine V_sseq ?_; simp [c, hne, del])
    | (refine V_scond ?_; simp [c, hne, del])
    | (refine HD4_nil (hC _ (okP4_ren [m] nx (by simp <;> omega) (by simp <;> omega) (by apply Exists.intro; apply And.intro; (focus (repeat' (first | exact KF.nil | exact KL.nil | apply KF.cons | apply KL.cons 0 rfl | apply KL.cons 1 rfl | apply KL.cons 2 rfl | apply KL.cons 3 rfl | apply KL.cons 4 rfl | apply KL.cons 5 rfl | apply KL.cons 6 rfl | apply KL.cons 7 rfl | apply KL.cons 8 rfl | apply KL.cons 9 rfl))); kernel_rfl))) (hk _ ?_); clear hC hk C k; simp only [RunK])
    | (refine V_drawX rfl (by kernel_rfl) (by first | (simp [hn]; done) | (simp [hn]; omega) | fail) fun C k hC hk => ?_; simp [c, hne, del])
    | (refine HD4_guard rfl (by simp [c, hne, del]) (fun hc => ?_) (fun hc => ?_) <;> (try simp [c, hne, del] at hc) <;> (try (exfalso; omega)) <;> (try simp [c, hne, del]))
    | (refine V_sblock ?_; simp [c, hne, del])
    | (refine V_ret ?_; simp only [RunK])
    | (refine CallV.fun_ (hs1) (by first | rfl | fail) (by first | assumption | (simp; done) | fail) (by first | (simp [c, hne, del]; done) | (simp [c, hne, del]; rfl) | fail) (by first | (simp; done) | fail) ?_ <;> (try simp [c, hne, del]))
    | (refine CallP.okL (hck _) (by first | (simp [c, hne, del, getK_cons, getK, getK_append, getK_del, getK_setOb, applyW, del]; done) | fail) (by rfl) (by first | assumption | (simp; done) | fail) (by rfl) (by simp) ?_; (try simp [c, hne, del, delL, del]))
    | fail)
        (refine EndW.here ?_; (first | (refine EndOK.fin (.inr rfl) ?_) | (refine EndOK.fin (.inl rfl) ?_)); simp [resD, oneOrTup, Tryd.results76, hne, hm, hr, letsU]; refine FinOK.cut [(m, mOb lets r g)] (nx) (by simp [getK_cons, getK, getK_append, getK_del, Ob.under, D.under, under_rowsD, under_entD, hne, hm, hr, letsU] <;> omega) (by simp [D.under]) (by simp [hn]) ?_; try simp)
        all_goals rfl
      | error err =>
        simp only [hk, outV] at hck ⊢
        (refine RetX.of_bodyW Tryd.func76 rfl (by simp) fun Γ hn hpan => ?_); simp only [entry, List.zipIdx_cons, List.zipIdx_nil, List.map_cons, List.map_nil, Nat.zero_add, Tryd.ntmps76]
        repeat' (first
    | (refine H_cons ?_; simp [c, hne, del])
    | (refine HD4_val rfl ?_; simp [c, hne, del])
    | (refine H_nil ?_; simp [c, hne, del])
    | (refine ⟨by omega, ?_⟩)
    | (refine V_sseq ?_; simp [c, hne, del])
    | (refine V_scond ?_; simp [c, hne, del])
    | (refine HD4_nil (hC _ (okP4_ren [m] nx (by simp <;> omega) (by simp <;> omega) (by apply Exists.intro; apply And.intro; (focus (repeat' (first | exact KF.nil | exact KL.nil | apply KF.cons | apply KL.cons 0 rfl | apply KL.cons 1 rfl | apply KL.cons 2 rfl | apply KL.cons 3 rfl | apply KL.cons 4 rfl | apply KL.cons 5 rfl | apply KL.cons 6 rfl | apply KL.cons 7 rfl | apply KL.cons 8 rfl | apply KL.cons 9 rfl))); kernel_rfl))) (hk _ ?_); clear hC hk C k; simp only [RunK])
    | (refine V_drawX rfl (by kernel_rfl) (by first | (simp [hn]; done) | (simp [hn]; omega) | fail) fun C k hC hk => ?_; simp [c, hne, del])
    | (refine HD4_guard rfl (by simp [c, hne, del]) (fun hc => ?_) (fun hc => ?_) <;> (try simp [c, hne, del] at hc) <;> (try (exfalso; omega)) <;> (try simp [c, hne, del]))
    | (refine V_sblock ?_; simp [c, hne, del])
    | (refine CallV.fun_ (hs1) (by first | rfl | fail) (by first | assumption | (simp; done) | fail) (by first | (simp [c, hne, del]; done) | (simp [c, hne, del]; rfl) | fail) (by first | (simp; done) | fail) ?_ <;> (try simp [c, hne, del]))
    | (refine CallP.panL (hck _) (by first | (simp [c, hne, del, getK_cons, getK, getK_append, getK_del, getK_setOb, applyW, del]; done) | fail) (by rfl) (by first | assumption | (simp; done) | fail) (by rfl) (by simp) ?_; refine ⟨_, Wk.refl _, ?_⟩; (try simp [c, hne, del, delL, del]))
    | fail)
        (refine hpan _ _ ⟨{ n := _, env := [], obs := [(m, mOb lets r g)], next := nx }, (Wk.cut rfl (by simp [hn]) (by simp [wkO, getK_cons, getK, getK_append, getK_del, Ob.under, D.under, under_rowsD, under_entD, hm, hr, hne, letsU, getK_append, getK_del, getK_cons, getK]) (by simp [wkU, keepE, getK_cons, getK, D.under, hm, hr, hne, letsU, getK_append, getK_del, getK_cons, getK]) (by simp [wkE, keepE, getK_cons, getK, hm, hr, hne, letsU, getK_append, getK_del, getK_cons, getK])), by simp [hn], ?_⟩; try simp)
        all_goals rfl
  by_cases c : e.op = 5
  · rw [c]
    by_cases hb0 : b = 0
    · rw [show ∀ sh, binX 5 sh a b = .error 15 from fun sh => by rw [hb0]; rfl]
      simp only [outV, chF]
      (refine RetX.of_bodyW Tryd.func76 rfl (by simp) fun Γ hn hpan => ?_); simp only [entry, List.zipIdx_cons, List.zipIdx_nil, List.map_cons, List.map_nil, Nat.zero_add, Tryd.ntmps76]
      repeat' (first
    | (refine H_cons ?_; simp [c, hne, hb0])
    | (refine H_nil ?_; simp [c, hne, hb0])
    | (refine V_sseq ?_; simp [c, hne, hb0])
    | (refine V_scond ?_; simp [c, hne, hb0])
    | (refine V_sblock ?_; simp [c, hne, hb0])
    | (refine V_sregion ?_; simp [c, hne, hb0])
    | fail)
      (refine hpan _ _ ⟨{ n := _, env := [], obs := [(m, mOb lets r g)], next := nx }, (Wk.cut rfl (by simp [hn]) (by simp [wkO, getK_cons, getK, getK_append, getK_del, Ob.under, D.under, under_rowsD, under_entD, hm, hr, hne, letsU, getK_append, getK_del, getK_cons, getK]) (by simp [wkU, keepE, getK_cons, getK, D.under, hm, hr, hne, letsU, getK_append, getK_del, getK_cons, getK]) (by simp [wkE, keepE, getK_cons, getK, hm, hr, hne, letsU, getK_append, getK_del, getK_cons, getK])), by simp [hn], ?_⟩; try simp)
      all_goals rfl
    · obtain ⟨Z, hZ⟩ : ∃ Z, floorX a b = Z := ⟨_, rfl⟩
      have hck := fun nx' => check_ret Z nx'
      have hf := floor_fun a b (by omega) hb0 (by omega)
      rw [hZ] at hf
      rw [show ∀ sh, binX 5 sh a b = keptX Z from fun sh => by rw [← hZ]; simp [binX, hb0]]
      cases hk : keptX Z with
      | ok v =>
        simp only [hk, outV] at hck ⊢
        (refine RetX.of_bodyW Tryd.func76 rfl (by simp) fun Γ hn hpan => ?_); simp only [entry, List.zipIdx_cons, List.zipIdx_nil, List.map_cons, List.map_nil, Nat.zero_add, Tryd.ntmps76]
        repeat' (first
    | (refine H_cons ?_; simp [c, hne, hb0])
    | (refine H_nil ?_; simp [c, hne, hb0])
    | (refine V_sseq ?_; simp [c, hne, hb0])
    | (refine V_scond ?_; simp [c, hne, hb0])
    | (refine V_sblock ?_; simp [c, hne, hb0])
    | (refine V_ret ?_; simp only [RunK])
    | (refine V_skip ?_; simp only [RunK])
    | (refine CallP.fun_ (hf) (by first | rfl | fail) (by first | assumption | (simp; done) | fail) (by first | (simp [c, hne, hb0]; done) | (simp [c, hne, hb0]; rfl) | fail) (by first | (simp; done) | fail) (fun d hd => ?_); subst hd; (try simp [c, hne, hb0]))
    | (refine CallP.okL (hck _) (by first | (simp [c, hne, hb0, getK_cons, getK, getK_append, getK_del, getK_setOb, applyW, del]; done) | fail) (by rfl) (by first | assumption | (simp; done) | fail) (by rfl) (by simp) ?_; (try simp [c, hne, hb0, delL, del]))
    | fail)
        (refine EndW.here ?_; (first | (refine EndOK.fin (.inr rfl) ?_) | (refine EndOK.fin (.inl rfl) ?_)); simp [resD, oneOrTup, Tryd.results76, hne, hm, hr, letsU]; refine FinOK.cut [(m, mOb lets r g)] (nx) (by simp [getK_cons, getK, getK_append, getK_del, Ob.under, D.under, under_rowsD, under_entD, hne, hm, hr, letsU] <;> omega) (by simp [D.under]) (by simp [hn]) ?_; try simp)
        all_goals rfl
      | error err =>
        simp only [hk, outV] at hck ⊢
        (refine RetX.of_bodyW Tryd.func76 rfl (by simp) fun Γ hn hpan => ?_); simp only [entry, List.zipIdx_cons, List.zipIdx_nil, List.map_cons, List.map_nil, Nat.zero_add, Tryd.ntmps76]
        repeat' (first
    | (refine H_cons ?_; simp [c, hne, hb0])
    | (refine H_nil ?_; simp [c, hne, hb0])
    | (refine V_sseq ?_; simp [c, hne, hb0])
    | (refine V_scond ?_; simp [c, hne, hb0])
    | (refine V_sblock ?_; simp [c, hne, hb0])
    | (refine V_skip ?_; simp only [RunK])
    | (refine CallP.fun_ (hf) (by first | rfl | fail) (by first | assumption | (simp; done) | fail) (by first | (simp [c, hne, hb0]; done) | (simp [c, hne, hb0]; rfl) | fail) (by first | (simp; done) | fail) (fun d hd => ?_); subst hd; (try simp [c, hne, hb0]))
    | (refine CallP.panL (hck _) (by first | (simp [c, hne, hb0, getK_cons, getK, getK_append, getK_del, getK_setOb, applyW, del]; done) | fail) (by rfl) (by first | assumption | (simp; done) | fail) (by rfl) (by simp) ?_; refine ⟨_, Wk.refl _, ?_⟩; (try simp [c, hne, hb0, delL, del]))
    | fail)
        (refine hpan _ _ ⟨{ n := _, env := [], obs := [(m, mOb lets r g)], next := nx }, (Wk.cut rfl (by simp [hn]) (by simp [wkO, getK_cons, getK, getK_append, getK_del, Ob.under, D.under, under_rowsD, under_entD, hm, hr, hne, letsU, getK_append, getK_del, getK_cons, getK]) (by simp [wkU, keepE, getK_cons, getK, D.under, hm, hr, hne, letsU, getK_append, getK_del, getK_cons, getK]) (by simp [wkE, keepE, getK_cons, getK, hm, hr, hne, letsU, getK_append, getK_del, getK_cons, getK])), by simp [hn], ?_⟩; try simp)
        all_goals rfl
  have ht := truth_fun (decide (a < b))
  by_cases c : e.op = 6
  · rw [c, show ∀ sh, binX 6 sh a b = .ok (min a b) from fun sh => rfl]
    simp only [outV]
    (refine RetX.of_bodyW Tryd.func76 rfl (by simp) fun Γ hn hpan => ?_); simp only [entry, List.zipIdx_cons, List.zipIdx_nil, List.map_cons, List.map_nil, Nat.zero_add, Tryd.ntmps76]
    repeat' (first
    | (refine H_cons ?_; simp [c, hne])
    | (refine H_nil ?_; simp [c, hne])
    | (refine V_sseq ?_; simp [c, hne])
    | (refine V_scond ?_; simp [c, hne])
    | (refine V_sblock ?_; simp [c, hne])
    | (refine V_ret ?_; simp only [RunK])
    | fail)
    (refine EndW.here ?_; (first | (refine EndOK.fin (.inr rfl) ?_) | (refine EndOK.fin (.inl rfl) ?_)); simp [resD, oneOrTup, Tryd.results76, hne, hm, hr, letsU]; refine FinOK.cut [(m, mOb lets r g)] (nx) (by simp [getK_cons, getK, getK_append, getK_del, Ob.under, D.under, under_rowsD, under_entD, hne, hm, hr, letsU] <;> omega) (by simp [D.under]) (by simp [hn]) ?_; try simp)
    all_goals rfl
  by_cases c : e.op = 7
  · rw [c, show ∀ sh, binX 7 sh a b = .ok (max a b) from fun sh => rfl]
    simp only [outV]
    (refine RetX.of_bodyW Tryd.func76 rfl (by simp) fun Γ hn hpan => ?_); simp only [entry, List.zipIdx_cons, List.zipIdx_nil, List.map_cons, List.map_nil, Nat.zero_add, Tryd.ntmps76]
    repeat' (first
    | (refine H_cons ?_; simp [c, hne])
    | (refine H_nil ?_; simp [c, hne])
    | (refine V_sseq ?_; simp [c, hne])
    | (refine V_scond ?_; simp [c, hne])
    | (refine V_sblock ?_; simp [c, hne])
    | (refine V_ret ?_; simp only [RunK])
    | fail)
    (refine EndW.here ?_; (first | (refine EndOK.fin (.inr rfl) ?_) | (refine EndOK.fin (.inl rfl) ?_)); simp [resD, oneOrTup, Tryd.results76, hne, hm, hr, letsU]; refine FinOK.cut [(m, mOb lets r g)] (nx) (by simp [getK_cons, getK, getK_append, getK_del, Ob.under, D.under, under_rowsD, under_entD, hne, hm, hr, letsU] <;> omega) (by simp [D.under]) (by simp [hn]) ?_; try simp)
    all_goals rfl
  by_cases c : e.op = 8
  · rw [c, show ∀ sh, binX 8 sh a b = .ok (truthX (decide (a < b))) from fun sh => rfl]
    simp only [outV]
    (refine RetX.of_bodyW Tryd.func76 rfl (by simp) fun Γ hn hpan => ?_); simp only [entry, List.zipIdx_cons, List.zipIdx_nil, List.map_cons, List.map_nil, Nat.zero_add, Tryd.ntmps76]
    repeat' (first
    | (refine H_cons ?_; simp [c, hne])
    | (refine H_nil ?_; simp [c, hne])
    | (refine V_sseq ?_; simp [c, hne])
    | (refine V_scond ?_; simp [c, hne])
    | (refine V_sblock ?_; simp [c, hne])
    | (refine V_ret ?_; simp only [RunK])
    | (refine CallP.fun_ (ht) (by first | rfl | fail) (by first | assumption | (simp; done) | fail) (by first | (simp [c, hne]; done) | (simp [c, hne]; rfl) | fail) (by first | (simp; done) | fail) (fun d hd => ?_); subst hd; (try simp [c, hne]))
    | fail)
    (refine EndW.here ?_; (first | (refine EndOK.fin (.inr rfl) ?_) | (refine EndOK.fin (.inl rfl) ?_)); simp [resD, oneOrTup, Tryd.results76, hne, hm, hr, letsU]; refine FinOK.cut [(m, mOb lets r g)] (nx) (by simp [getK_cons, getK, getK_append, getK_del, Ob.under, D.under, under_rowsD, under_entD, hne, hm, hr, letsU] <;> omega) (by simp [D.under]) (by simp [hn]) ?_; try simp)
    all_goals rfl
  have c : e.op = 9 := by omega
  have ht := truth_fun (decide (a = b))
  rw [c, show ∀ sh, binX 9 sh a b = .ok (truthX (decide (a = b))) from fun sh => rfl]
  simp only [outV]
  (refine RetX.of_bodyW Tryd.func76 rfl (by simp) fun Γ hn hpan => ?_); simp only [entry, List.zipIdx_cons, List.zipIdx_nil, List.map_cons, List.map_nil, Nat.zero_add, Tryd.ntmps76]
  repeat' (first
    | (refine H_cons ?_; simp [c, hne])
    | (refine H_nil ?_; simp [c, hne])
    | (refine V_sseq ?_; simp [c, hne])
    | (refine V_scond ?_; simp [c, hne])
    | (refine V_sblock ?_; simp [c, hne])
    | (refine V_ret ?_; simp only [RunK])
    | (refine V_skip ?_; simp only [RunK])
    | (refine CallP.fun_ (ht) (by first | rfl | fail) (by first | assumption | (simp; done) | fail) (by first | (simp [c, hne]; done) | (simp [c, hne]; rfl) | fail) (by first | (simp; done) | fail) (fun d hd => ?_); subst hd; (try simp [c, hne]))
    | fail)
  (refine EndW.here ?_; (first | (refine EndOK.fin (.inr rfl) ?_) | (refine EndOK.fin (.inl rfl) ?_)); simp [resD, oneOrTup, Tryd.results76, hne, hm, hr, letsU]; refine FinOK.cut [(m, mOb lets r g)] (nx) (by simp [getK_cons, getK, getK_append, getK_del, Ob.under, D.under, under_rowsD, under_entD, hne, hm, hr, letsU] <;> omega) (by simp [D.under]) (by simp [hn]) ?_; try simp)
  all_goals rfl
end Go.Proofs.YtfcopibncpkdoaaDoor
namespace Go.Proofs.YtfcopibncpkdoaaDoor
open Go Go.VL
section
variable {lets : List Let} {G : List UInt8 → Option Int} {n : Nat} {e x y z : Exp} {t t1 t2 : Tab}
theorem valL_num (h : e.op = 0) : valL lets G n e t = (keptX e.n, t) := by unfold valL; rw [valT_eq, if_pos h]; rfl
theorem valL_name (h : e.op = 1) : valL lets G n e t = nmT lets G n e.s t := by unfold valL; rw [valT_eq, if_neg (by omega), if_pos h]
theorem valL_err {l : List Exp} {er : Int} (h0 : e.op ≠ 0) (h1 : e.op ≠ 1) (ha : e.args = x :: l) (hx : valL lets G n x t = (.error er, t1)) : valL lets G n e t = (.error er, t1) := by
  unfold valL at *
  rw [valT_eq, if_neg h0, if_neg h1, ha, valN]
  repeat' split
  all_goals exact TM.bind_err hx
theorem valL_and0 {l : List Exp} (h : e.op = 10) (ha : e.args = x :: l) (hx : valL lets G n x t = (.ok 0, t1)) : valL lets G n e t = (.ok 0, t1) := by
  unfold valL at *
  rw [valT_eq, if_neg (by omega), if_neg (by omega), if_pos h, ha, valN, TM.bind_ok hx, if_pos rfl]; rfl
theorem valL_andE {a er : Int} (h : e.op = 10) (ha : e.args = [x, y]) (hx : valL lets G n x t = (.ok a, t1)) (h0 : a ≠ 0) (hy : valL lets G n y t1 = (.error er, t2)) : valL lets G n e t = (.error er, t2) := by
  unfold valL at *
  rw [valT_eq, if_neg (by omega), if_neg (by omega), if_pos h, ha, valN, TM.bind_ok hx, if_neg h0, valN, valN, TM.bind_err hy]
theorem valL_and {a b : Int} (h : e.op = 10) (ha : e.args = [x, y]) (hx : valL lets G n x t = (.ok a, t1)) (h0 : a ≠ 0) (hy : valL lets G n y t1 = (.ok b, t2)) : valL lets G n e t = (.ok (truthX (decide (b ≠ 0))), t2) := by
  unfold valL at *
  rw [valT_eq, if_neg (by omega), if_neg (by omega), if_pos h, ha, valN, TM.bind_ok hx, if_neg h0, valN, valN, TM.bind_ok hy]; rfl
theorem valL_or1 {l : List Exp} {a : Int} (h : e.op = 11) (ha : e.args = x :: l) (hx : valL lets G n x t = (.ok a, t1)) (h0 : a ≠ 0) : valL lets G n e t = (.ok 1, t1) := by
  unfold valL at *
  rw [valT_eq, if_neg (by omega), if_neg (by omega), if_neg (by omega), if_pos h, ha, valN, TM.bind_ok hx, if_pos h0]; rfl
theorem valL_orE {er : Int} (h : e.op = 11) (ha : e.args = [x, y]) (hx : valL lets G n x t = (.ok 0, t1)) (hy : valL lets G n y t1 = (.error er, t2)) : valL lets G n e t = (.error er, t2) := by
  unfold valL at *
  rw [valT_eq, if_neg (by omega), if_neg (by omega), if_neg (by omega), if_pos h, ha, valN, TM.bind_ok hx, if_neg (by simp), valN, valN, TM.bind_err hy]
theorem valL_or {b : Int} (h : e.op = 11) (ha : e.args = [x, y]) (hx : valL lets G n x t = (.ok 0, t1)) (hy : valL lets G n y t1 = (.ok b, t2)) : valL lets G n e t = (.ok (truthX (decide (b ≠ 0))), t2) := by
  unfold valL at *
  rw [valT_eq, if_neg (by omega), if_neg (by omega), if_neg (by omega), if_pos h, ha, valN, TM.bind_ok hx, if_neg (by simp), valN, valN, TM.bind_ok hy]; rfl
theorem valL_not {a : Int} (h : e.op = 12) (ha : e.args = [x]) (hx : valL lets G n x t = (.ok a, t1)) : valL lets G n e t = (.ok (truthX (decide (a = 0))), t1) := by
  unfold valL at *
  rw [valT_eq, if_neg (by omega), if_neg (by omega), if_neg (by omega), if_neg (by omega), if_pos h, ha, valN, TM.bind_ok hx]; rfl
theorem valL_if1 {a : Int} (h : e.op = 13) (ha : e.args = [x, y, z]) (hx : valL lets G n x t = (.ok a, t1)) (h0 : a ≠ 0) : valL lets G n e t = valL lets G n y t1 := by
  unfold valL at *
  rw [valT_eq, if_neg (by omega), if_neg (by omega), if_neg (by omega), if_neg (by omega), if_neg (by omega), if_pos h, ha, valN, TM.bind_ok hx, if_pos h0, valN, valN]
theorem valL_if0 (h : e.op = 13) (ha : e.args = [x, y, z]) (hx : valL lets G n x t = (.ok 0, t1)) : valL lets G n e t = valL lets G n z t1 := by
  unfold valL at *
  rw [valT_eq, if_neg (by omega), if_neg (by omega), if_neg (by omega), if_neg (by omega), if_neg (by omega), if_pos h, ha, valN, TM.bind_ok hx, if_neg (by simp), valN, valN, valN]
theorem valL_binE {a er : Int} (h : 2 ≤ e.op ∧ e.op ≤ 9) (ha : e.args = [x, y]) (hx : valL lets G n x t = (.ok a, t1)) (hy : valL lets G n y t1 = (.error er, t2)) : valL lets G n e t = (.error er, t2) := by
  unfold valL at *
  rw [valT_eq, if_neg (by omega), if_neg (by omega), if_neg (by omega), if_neg (by omega), if_neg (by omega), if_neg (by omega), ha, valN, TM.bind_ok hx, valN, valN, TM.bind_err hy]
theorem valL_bin {a b : Int} (h : 2 ≤ e.op ∧ e.op ≤ 9) (ha : e.args = [x, y]) (hx : valL lets G n x t = (.ok a, t1)) (hy : valL lets G n y t1 = (.ok b, t2)) :
    valL lets G n e t = (binX e.op (shareP (lets.take n) x || shareP (lets.take n) y) a b, t2) := by
  unfold valL at *
  rw [valT_eq, if_neg (by omega), if_neg (by omega), if_neg (by omega), if_neg (by omega), if_neg (by omega), if_neg (by omega), ha, valN, TM.bind_ok hx, valN, valN, TM.bind_ok hy]
  simp [TM.ret]
end
abbrev tOb (t : Tab) : Ob := .vec 153 3 (t.map fun x => [.u (.int .i64 x.1), .u (.int .i64 x.2.1), .u (.bool x.2.2)])
abbrev eOb (e : Exp) : Ob := .box [.u (.int .i64 e.op), .u (.int .i64 e.n), .u (.int .i64 e.unit), .u (.str e.s), .u (.sl (e.args.map Exp.row))]
def ValOK (lets : List Let) (r : Nat) (g : GM) (m n : Nat) (e : Exp) : Prop := ∀ (t : Tab) (nx : Nat), m < nx → r < nx → TabOK lets.length t →
  RetX Tryd.prog 46 [.ptr m 0, eagg e, .u (.int .i64 n)] [(m, mOb lets r g), (r, tOb t)] nx
    (fun o obs n' => o = outV (valL lets (gF g) n e t).1 ∧ obs = [(m, mOb lets r g), (r, tOb (valL lets (gF g) n e t).2)] ∧ n' = nx)
attribute [local simp] HS hcons hstep evPure opd uOf putOK St.put St.at getK binD binI binS binB nilD aggD eqUs cmpK lookD lookR rangeD nextD entryD keyD valU keyU lookK mkV entD_nil lookK_entD updK_entD1 updK_entD3 allUE allUE_entD makeMapD mapUpdD mapEff updK valM Key.kk shiftI arith unD convD pickD loadD cellsAt fieldAddrD fieldD indexAddrD indexD sliceD cutD lenD minmaxD nilCheckD buildD fillD cellsD isOne ones setAll mkAgg allU allocD boxD storeD St.add buildSliceD appendD rowsOf makeD setOb getK_setOb getK_del getK_cons stripL strip guardTmp entry chunks zcells valD argsV argsW argW argU1 argU0 argsU0 argsU1 calleeOf scalarD scalarU delAll effD St.effS RK_seq RK_seq_ret RK_seq_exit RK_blk RK_blk_ret RK_blk_exit RK_loop RK_loop_ret RK_loop_exit RK_done vs_seq vs_block vs_cond vs_region vs_loop vs_draw applyW mkD rdIds lentIds callOf calleeOf freeOp D.ids Op.operands Call.operands isEffOp makeIfD typeAssertD conc concs conc1 uOfV panicD IntKind.bits allU2 allU2_append List.take_of_length_le List.range_succ
attribute [local irreducible] V G H HD HD2 HD4 HD4h RetX RunK Eff CallP CallV EndOK Fun Ret FinOK LoopI LoopW EndW
def under_tOb (N : Nat) (t : Tab) : (∀ x ∈ t, ∀ y ∈ [D.u (.int .i64 x.1), D.u (.int .i64 x.2.1), D.u (.bool x.2.2)], D.under N y = true) := by
  intro x _ y hy
  simp at hy
  rcases hy with rfl | rfl | rfl <;> simp [D.under]
theorem arg_ret {lets : List Let} {r : Nat} {g : GM} {m n : Nat} {x : Exp} (hV : ValOK lets r g m n x) (e : Exp) (ia : Nat) (hia : e.args[ia]? = some x) (hmr : m ≠ r) (N : Nat) (hm : m < N) (hr : r < N) (t : Tab) (nx : Nat) (hN : N + 3 ≤ nx) (ht : TabOK lets.length t) :
    RetX Tryd.prog 72 [.u (.int .i64 ia), .ptr N 0, .ptr (N + 1) 0, .ptr (N + 2) 0]
      [(N, .box [.ptr m 0]), (N + 1, eOb e), (N + 2, .box [.u (.int .i64 n)]), (m, mOb lets r g), (r, tOb t)] nx
      (fun o obs n' => o = outV (valL lets (gF g) n x t).1 ∧ obs = [(N, .box [.ptr m 0]), (N + 1, eOb e), (N + 2, .box [.u (.int .i64 n)]), (m, mOb lets r g), (r, tOb (valL lets (gF g) n x t).2)] ∧ n' = nx) := by
  have hne := nef hm
  have hne2 := nef hr
  have hv := fun nx' (h : N + 3 ≤ nx') => hV t nx' (by omega) (by omega) ht
  have hil := (List.getElem?_eq_some_iff.1 hia).1
  unfold eagg at hv
  rcases hvl : valL lets (gF g) n x t with ⟨er | v, t1⟩
  · simp only [hvl, outV] at hv ⊢
    (refine RetX.of_bodyW Tryd.func72 rfl (by simp) fun Γ hn hpan => ?_); simp only [entry, List.zipIdx_cons, List.zipIdx_nil, List.map_cons, List.map_nil, Nat.zero_add, Tryd.ntmps72]
    repeat' (first
    | (refine HD4_panL (fun nx' h' => hv nx' (by simp at h'; omega)) (by first | (simp [hne, hne2, hmr, Ne.symm hmr, hia, Exp.row_eq, under_tOb, getK_cons, getK, getK_append, getK_del, getK_setOb, applyW, del]; done) | fail) (by rfl) (by first | assumption | (simp; done) | fail) (by rfl) (by simp) ?_ ?_; intro env' n' hn'; refine ⟨_, Wk.refl _, ?_⟩; (try simp [hne, hne2, hmr, Ne.symm hmr, hia, Exp.row_eq, under_tOb, delL, del]))
    | (refine HD4_val rfl ?_; simp [hne, hne2, hmr, Ne.symm hmr, hia, Exp.row_eq, under_tOb]; (fail_if_success (guard_target =ₛ False)))
    | (refine H_cons ?_; simp [hne, hne2, hmr, Ne.symm hmr, hia, Exp.row_eq, under_tOb])
    | (refine H_nil ?_; simp [hne, hne2, hmr, Ne.symm hmr, hia, Exp.row_eq, under_tOb])
    | (refine V_sseq ?_; simp [hne, hne2, hmr, Ne.symm hmr, hia, Exp.row_eq, under_tOb])
    | (refine HD4_nilS (hC _ (okP4_ren [N, N + 1, N + 2, m, r] nx (by simp <;> omega) (by simp <;> omega) (by apply Exists.intro; apply And.intro; (focus (repeat' (first | exact KF.nil | exact KL.nil | apply KF.cons | apply KL.cons 0 rfl | apply KL.cons 1 rfl | apply KL.cons 2 rfl | apply KL.cons 3 rfl | apply KL.cons 4 rfl | apply KL.cons 5 rfl | apply KL.cons 6 rfl | apply KL.cons 7 rfl | apply KL.cons 8 rfl | apply KL.cons 9 rfl))); kernel_rfl))) rfl; done)
    | (refine V_drawX rfl (by kernel_rfl) (by first | (simp [hn]; done) | (simp [hn]; omega) | fail) fun C k hC hk => ?_; simp [hne, hne2, hmr, Ne.symm hmr, hia, Exp.row_eq, under_tOb])
    | fail)
    (refine hpan _ _ ⟨{ n := _, env := [], obs := [(N, .box [.ptr m 0]), (N + 1, eOb e), (N + 2, .box [.u (.int .i64 n)]), (m, mOb lets r g), (r, tOb t1)], next := nx }, (Wk.cut rfl (by simp [hn]) (by simp [wkO, getK_cons, getK, getK_append, getK_del, Ob.under, D.under, under_rowsD, under_entD, hm, hr, hne, hne2, hmr, Ne.symm hmr, under_tOb, getK_append, getK_del, getK_cons, getK] <;> (try omega)) (by simp [wkU, keepE, getK_cons, getK, D.under, hm, hr, hne, hne2, hmr, Ne.symm hmr, under_tOb, getK_append, getK_del, getK_cons, getK] <;> (try omega)) (by simp [wkE, keepE, getK_cons, getK, hm, hr, hne, hne2, hmr, Ne.symm hmr, under_tOb, getK_append, getK_del, getK_cons, getK] <;> (try omega))), (by simp [hn] <;> (try omega)), ?_⟩; try simp)
  · simp only [hvl, outV] at hv ⊢
    (refine RetX.of_bodyW Tryd.func72 rfl (by simp) fun Γ hn hpan => ?_); simp only [entry, List.zipIdx_cons, List.zipIdx_nil, List.map_cons, List.map_nil, Nat.zero_add, Tryd.ntmps72]
    repeat' (first
    | (refine HD4_okL (fun nx' h' => hv nx' (by simp at h'; omega)) (by first | (simp [hne, hne2, hmr, Ne.symm hmr, hia, Exp.row_eq, under_tOb, getK_cons, getK, getK_append, getK_del, getK_setOb, applyW, del]; done) | fail) rfl (by first | (simp [hne, hne2, hmr, Ne.symm hmr, hia, Exp.row_eq, under_tOb]; done) | fail) (by rfl) (by first | assumption | (simp; done) | fail) (by rfl) (by first | (simp [hne, hne2, hmr, Ne.symm hmr, hia, Exp.row_eq, under_tOb, D.under, Ob.under, under_rowsD, under_entD]; done) | (simp [hne, hne2, hmr, Ne.symm hmr, hia, Exp.row_eq, under_tOb, D.under, Ob.under, under_rowsD, under_entD]; omega) | fail) (by simp) ?_; (try simp [hne, hne2, hmr, Ne.symm hmr, hia, Exp.row_eq, under_tOb]))
    | (refine H_cons ?_; simp [hne, hne2, hmr, Ne.symm hmr, hia, Exp.row_eq, under_tOb])
    | (refine HD4_val rfl ?_; simp [hne, hne2, hmr, Ne.symm hmr, hia, Exp.row_eq, under_tOb])
    | (refine H_nil ?_; simp [hne, hne2, hmr, Ne.symm hmr, hia, Exp.row_eq, under_tOb])
    | (refine V_sseq ?_; simp [hne, hne2, hmr, Ne.symm hmr, hia, Exp.row_eq, under_tOb])
    | (refine HD4_nil (hC _ (okP4_ren [N, N + 1, N + 2, m, r] nx (by simp <;> omega) (by simp <;> omega) (by apply Exists.intro; apply And.intro; (focus (repeat' (first | exact KF.nil | exact KL.nil | apply KF.cons | apply KL.cons 0 rfl | apply KL.cons 1 rfl | apply KL.cons 2 rfl | apply KL.cons 3 rfl | apply KL.cons 4 rfl | apply KL.cons 5 rfl | apply KL.cons 6 rfl | apply KL.cons 7 rfl | apply KL.cons 8 rfl | apply KL.cons 9 rfl))); kernel_rfl))) (hk _ ?_); clear hC hk C k; simp only [RunK])
    | (refine V_drawX rfl (by kernel_rfl) (by first | (simp [hn]; done) | (simp [hn]; omega) | fail) fun C k hC hk => ?_; simp [hne, hne2, hmr, Ne.symm hmr, hia, Exp.row_eq, under_tOb])
    | (refine V_ret ?_; simp only [RunK])
    | fail)
    (refine EndW.here ?_; (first | (refine EndOK.fin (.inr rfl) ?_) | (refine EndOK.fin (.inl rfl) ?_)); simp [resD, oneOrTup, Tryd.results72, hm, hr, hne, hne2, hmr, Ne.symm hmr, under_tOb]; refine FinOK.cut [(N, .box [.ptr m 0]), (N + 1, eOb e), (N + 2, .box [.u (.int .i64 n)]), (m, mOb lets r g), (r, tOb t1)] (nx) (by simp [getK_cons, getK, getK_append, getK_del, Ob.under, D.under, under_rowsD, under_entD, hm, hr, hne, hne2, hmr, Ne.symm hmr, under_tOb] <;> omega) (by simp [D.under]) (by simp [hn]) ?_; try simp)
/-- The same, the table first. -/
theorem arg_ret1 {lets : List Let} {r : Nat} {g : GM} {m n : Nat} {x : Exp} {v : Int} {t1 : Tab} (hV : ValOK lets r g m n x) (e : Exp) (ia : Nat) (hia : e.args[ia]? = some x) (hmr : m ≠ r) (N : Nat) (hm : m < N) (hr : r < N) (t : Tab) (nx : Nat) (hN : N + 3 ≤ nx) (ht : TabOK lets.length t)
    (hv : valL lets (gF g) n x t = (.ok v, t1)) :
    RetX Tryd.prog 72 [.u (.int .i64 ia), .ptr N 0, .ptr (N + 1) 0, .ptr (N + 2) 0]
      [(r, tOb t), (N, .box [.ptr m 0]), (N + 1, eOb e), (N + 2, .box [.u (.int .i64 n)]), (m, mOb lets r g)] nx
      (fun o obs n' => o = .val (.u (.int .i64 v)) ∧ (∀ y, getK obs y = getK [(r, tOb t1), (N, .box [.ptr m 0]), (N + 1, eOb e), (N + 2, .box [.u (.int .i64 n)]), (m, mOb lets r g)] y) ∧ n' = nx) := by
  have hne2 := nef hr
  have hperm : ∀ (T : Tab) (y : Nat), getK [(N, .box [.ptr m 0]), (N + 1, eOb e), (N + 2, .box [.u (.int .i64 n)]), (m, mOb lets r g), (r, tOb T)] y = getK [(r, tOb T), (N, .box [.ptr m 0]), (N + 1, eOb e), (N + 2, .box [.u (.int .i64 n)]), (m, mOb lets r g)] y := fun T y => by
    simp only [getK_cons]
    by_cases h : y = r
    · subst h
      rw [if_neg (by omega), if_neg (by omega), if_neg (by omega), if_neg (Ne.symm hmr)]
      simp
    · simp [h]
  have h := arg_ret hV e ia hia hmr N hm hr t nx hN ht
  rw [hv] at h
  exact (h.congr fun y => (hperm t y).symm).mono fun o obs n' ⟨h1, h2, h3⟩ => ⟨h1, fun y => by rw [h2]; exact hperm t1 y, h3⟩
end Go.Proofs.YtfcopibncpkdoaaDoor
namespace Go.Proofs.YtfcopibncpkdoaaDoor
open Go Go.VL
def TryOK (lets : List Let) (r : Nat) (g : GM) (m n : Nat) (e : Exp) : Prop := ∀ (t : Tab) (nx : Nat), m < nx → r < nx → TabOK lets.length t →
  RetX Tryd.prog 27 [.ptr m 0, eagg e, .u (.int .i64 n)] [(m, mOb lets r g), (r, tOb t)] nx
    (fun o obs n' => o = .val (.tup [.u (.int .i64 (entX (valL lets (gF g) n e t).1).1), .u (.int .i64 (entX (valL lets (gF g) n e t).1).2.1)]) ∧ obs = [(m, mOb lets r g), (r, tOb (valL lets (gF g) n e t).2)] ∧ n' = nx)
attribute [local simp] HS hcons hstep evPure opd uOf putOK St.put St.at getK binD binI binS binB nilD aggD eqUs cmpK lookD lookR rangeD nextD entryD keyD valU keyU lookK mkV entD_nil lookK_entD updK_entD1 updK_entD3 allUE allUE_entD makeMapD mapUpdD mapEff updK valM Key.kk shiftI arith unD convD pickD loadD cellsAt fieldAddrD fieldD indexAddrD indexD sliceD cutD lenD minmaxD nilCheckD buildD fillD cellsD isOne ones setAll mkAgg allU allocD boxD storeD St.add buildSliceD appendD rowsOf makeD setOb getK_setOb getK_del getK_cons stripL strip guardTmp entry chunks zcells valD argsV argsW argW argU1 argU0 argsU0 argsU1 calleeOf scalarD scalarU delAll effD St.effS RK_seq RK_seq_ret RK_seq_exit RK_blk RK_blk_ret RK_blk_exit RK_loop RK_loop_ret RK_loop_exit RK_done vs_seq vs_block vs_cond vs_region vs_loop vs_draw applyW mkD rdIds lentIds callOf calleeOf freeOp D.ids Op.operands Call.operands isEffOp makeIfD typeAssertD conc concs conc1 uOfV panicD IntKind.bits allU2 allU2_append List.take_of_length_le List.range_succ
attribute [local irreducible] V G H HD HD2 HD4 HD4h RetX RunK Eff CallP CallV EndOK Fun Ret FinOK LoopI LoopW EndW
theorem under_tset (N : Nat) (t : Tab) (c : Nat) (a b : Int) (d : Bool) : (∀ x ∈ (t.map fun x => [D.u (.int .i64 x.1), D.u (.int .i64 x.2.1), D.u (.bool x.2.2)]).set c [D.u (.int .i64 a), D.u (.int .i64 b), D.u (.bool d)], ∀ y ∈ x, D.under N y = true) ↔ True := by
  refine ⟨fun _ => trivial, fun _ => ?_⟩
  have h : ((t.map fun x => [D.u (.int .i64 x.1), D.u (.int .i64 x.2.1), D.u (.bool x.2.2)]).set c [D.u (.int .i64 a), D.u (.int .i64 b), D.u (.bool d)]) = (t.set c (a, b, d)).map fun x => [D.u (.int .i64 x.1), D.u (.int .i64 x.2.1), D.u (.bool x.2.2)] := by rw [List.map_set]
  rw [h]
  intro x hx
  obtain ⟨q, _, rfl⟩ := List.mem_map.1 hx
  intro y hy
  simp at hy
  rcases hy with rfl | rfl | rfl <;> simp [D.under]
theorem nmT_given {lets : List Let} {g : List UInt8 → Option Int} {s : List UInt8} {v : Int} (h : g s = some v) : ∀ n, nmT lets g n s = TM.ret (.ok v)
  | 0 => by rw [nmT, h]
  | n + 1 => by rw [nmT, h]
theorem nmT_0 {lets : List Let} {g : List UInt8 → Option Int} {s : List UInt8} (h : g s = none) : nmT lets g 0 s = TM.ret (.error 13) := by rw [nmT, h]
theorem nmT_other {lets : List Let} {g : List UInt8 → Option Int} {s : List UInt8} {c : Nat} {l : Let} (h : g s = none) (hl : lets[c]? = some l) (hs : ¬ l.name = s) : nmT lets g (c + 1) s = nmT lets g c s := by
  rw [nmT, h, hl]
  simp only
  rw [if_neg hs]
theorem nmT_done {lets : List Let} {g : List UInt8 → Option Int} {s : List UInt8} {c : Nat} {l : Let} {t : Tab} {v e : Int} (h : g s = none) (hl : lets[c]? = some l) (hs : l.name = s) (ht : t[c]? = some (v, e, true)) :
    nmT lets g (c + 1) s t = (outX v e, t) := by
  rw [nmT, h, hl]
  simp only
  rw [if_pos hs]
  simp only [ht]
theorem nmT_new {lets : List Let} {g : List UInt8 → Option Int} {s : List UInt8} {c : Nat} {l : Let} {t : Tab} {v e : Int} (h : g s = none) (hl : lets[c]? = some l) (hs : l.name = s) (ht : t[c]? = some (v, e, false)) :
    nmT lets g (c + 1) s t = (outX (entX (valL lets g c l.body t).1).1 (entX (valL lets g c l.body t).1).2.1, (valL lets g c l.body t).2.set c (entX (valL lets g c l.body t).1)) := by
  rw [nmT, h, hl]
  simp only
  rw [if_pos hs]
  simp only [ht]
  rfl
theorem name_ret {lets : List Let} {r : Nat} {g : GM} {m n : Nat} (hgs : ∀ s v, gF g s = some v → inC v) (hrb : ∀ l ∈ lets, rightB 12 l.body = true) (hT : ∀ i l, i < n → lets[i]? = some l → TryOK lets r g m i l.body) (s : List UInt8) (hnl : n ≤ lets.length) (hl : lets.length ≤ 20) (hmr : m ≠ r) (t : Tab) (nx : Nat) (hm : m < nx) (hr : r < nx) (htab : TabOK lets.length t) :
    RetX Tryd.prog 74 [.ptr m 0, .u (.str s), .u (.int .i64 n)] [(m, mOb lets r g), (r, tOb t)] nx
      (fun o obs n' => o = outV (nmT lets (gF g) n s t).1 ∧ obs = [(m, mOb lets r g), (r, tOb (nmT lets (gF g) n s t).2)] ∧ n' = nx) := by
  have hne := nef hm
  have hne2 := nef hr
  have hlen := htab.len
  have hg := look_g g s
  rcases hga : asc g s with _ | v
  · have hgz : gF g s = none := hga
    rw [hga] at hg
    simp only [Option.map_none] at hg
    generalize hR : nmT lets (gF g) n s = R
    (refine RetX.of_bodyW Tryd.func74 rfl (by simp) fun Γ hn hpan => ?_); simp only [entry, List.zipIdx_cons, List.zipIdx_nil, List.map_cons, List.map_nil, Nat.zero_add, Tryd.ntmps74]
    repeat' (first
    | (refine H_cons ?_; simp [hne, hne2, hmr, Ne.symm hmr, hg])
    | (refine H_nil ?_; simp [hne, hne2, hmr, Ne.symm hmr, hg])
    | (refine ⟨by omega, ?_⟩)
    | (refine V_sseq ?_; simp [hne, hne2, hmr, Ne.symm hmr, hg])
    | (refine V_scond ?_; simp [hne, hne2, hmr, Ne.symm hmr, hg])
    | (refine V_sblock ?_; simp [hne, hne2, hmr, Ne.symm hmr, hg])
    | (refine V_skip ?_; simp only [RunK])
    | fail)
    refine V_loopO (α := { c : Nat // c ≤ n ∧ R = nmT lets (gF g) c s }) [0, 1] (fun c => [(9, .u (.int .i64 ((c.1 : Int) - 1)))]) (fun c => [(m, mOb lets r g), (r, tOb t)]) nx (fun c => c.1) ⟨n, by omega, hR.symm⟩ ?_ ?_
    · exact (Wk.cut rfl (by simp [hn, St.lp]) (by simp [wkO, St.lp, getK_cons, getK, Ob.under, D.under, under_rowsD, under_entD, hm, hr, hne, hne2, hmr, Ne.symm hmr, under_tOb]) (by simp [wkU, St.lp, keepE, getK_cons, getK, D.under, hm, hr, hne, hne2, hmr, Ne.symm hmr, under_tOb]) (by simp [wkE, St.lp, keepE, getK_cons, getK, hm, hr, hne, hne2, hmr, Ne.symm hmr, under_tOb] <;> (try (intros; simp_all; done)) <;> (try (intros; omega)) <;> (try grind)))
    rintro ⟨c, hc1, hc2⟩
    simp [St.lp, St.only, keepE, getK_cons, getK]
    rcases c with _ | c
    · rw [nmT_0 hgz] at hc2
      rw [hc2] at hpan
      repeat' (first
    | (refine H_cons ?_; simp [hne, hne2, hmr, Ne.symm hmr])
    | (refine H_nil ?_; simp [hne, hne2, hmr, Ne.symm hmr])
    | (refine V_sseq ?_; simp [hne, hne2, hmr, Ne.symm hmr])
    | (refine V_scond ?_; simp [hne, hne2, hmr, Ne.symm hmr])
    | (refine V_sregion ?_; simp [hne, hne2, hmr, Ne.symm hmr])
    | (refine V_exit ?_; simp [RunK])
    | fail)
      (refine hpan _ _ ⟨{ n := _, env := [], obs := [(m, mOb lets r g), (r, tOb t)], next := nx }, (Wk.cut rfl (by simp [hn]) (by simp [wkO, getK_cons, getK, getK_append, getK_del, Ob.under, D.under, under_rowsD, under_entD, hm, hr, hne, hne2, hmr, Ne.symm hmr, under_tOb] <;> (try omega)) (by simp [wkU, keepE, getK_cons, getK, D.under, hm, hr, hne, hne2, hmr, Ne.symm hmr, under_tOb] <;> (try omega)) (by simp [wkE, keepE, getK_cons, getK, hm, hr, hne, hne2, hmr, Ne.symm hmr, under_tOb] <;> (try omega))), (by simp [hn] <;> (try omega)), ?_⟩; try simp)
      all_goals simp [TM.ret, outV, chF]
    · obtain ⟨l, hx⟩ : ∃ l, lets[c]? = some l := ⟨_, List.getElem?_eq_getElem (by omega)⟩
      obtain ⟨⟨v0, e0, d0⟩, hy⟩ : ∃ q, t[c]? = some q := ⟨_, List.getElem?_eq_getElem (by omega)⟩
      by_cases hs : l.name = s
      · cases d0
        · have hc3 := congrFun hc2 t
          rw [nmT_new hgz hx hs hy] at hc3
          have hTT := fun nx' (h : nx ≤ nx') => hT c l (by omega) hx t nx' (by omega) (by omega) htab
          obtain ⟨k1, k2, k3⟩ := valL_ok hrb hgs c 12 l.body (hrb l (List.mem_of_getElem? hx)) t htab
          generalize valL lets (gF g) c l.body t = w at *
          obtain ⟨res, t1⟩ := w
          have hlen1 := k1.len
          simp only at hlen1 k2 k3 hc3 hTT
          unfold eagg at hTT
          obtain ⟨⟨v1, e1, d1⟩, hz⟩ : ∃ q, t1[c]? = some q := ⟨_, List.getElem?_eq_getElem (by omega)⟩
          have hst : ∀ x : List D, ((t1.map fun x => [D.u (.int .i64 x.1), D.u (.int .i64 x.2.1), D.u (.bool x.2.2)]).set c x)[c]? = some x := fun x => List.getElem?_set_self (by simp; omega)
          have hcl : t1.length = lets.length := hlen1
          rcases res with er | v
          · have her := k3 er rfl
            simp only [entX, outX, if_neg her] at hc3 hTT
            rw [hc3] at hpan
            repeat' (first
    | (refine H_cons ?_; simp [hne, hne2, hmr, Ne.symm hmr, hx, hy, hz, hs, her, letsU, hst, List.set_set])
    | (refine H_nil ?_; simp [hne, hne2, hmr, Ne.symm hmr, hx, hy, hz, hs, her, letsU, hst, List.set_set])
    | (refine ⟨by omega, ?_⟩)
    | (refine V_sseq ?_; simp [hne, hne2, hmr, Ne.symm hmr, hx, hy, hz, hs, her, letsU, hst, List.set_set])
    | (refine V_scond ?_; simp [hne, hne2, hmr, Ne.symm hmr, hx, hy, hz, hs, her, letsU, hst, List.set_set])
    | (refine V_sregion ?_; simp [hne, hne2, hmr, Ne.symm hmr, hx, hy, hz, hs, her, letsU, hst, List.set_set])
    | (refine V_skip ?_; simp only [RunK])
    | (refine ⟨?_, by omega⟩)
    | (refine CallP.okL (hTT _ (by first | omega | (simp; done) | (simp; omega) | fail)) (by first | (simp [hne, hne2, hmr, Ne.symm hmr, hx, hy, hz, hs, her, letsU, hst, List.set_set, getK_cons, getK, getK_append, getK_del, getK_setOb, applyW, del]; done) | fail) (by rfl) (by first | assumption | (simp; done) | fail) (by rfl) (by simp) ?_; (try simp [hne, hne2, hmr, Ne.symm hmr, hx, hy, hz, hs, her, letsU, hst, List.set_set, delL, del]))
    | fail)
            (refine hpan _ _ ⟨{ n := _, env := [], obs := [(m, mOb lets r g), (r, tOb (t1.set c (0, er, true)))], next := nx }, (Wk.cut rfl (by simp [hn]) (by simp [wkO, getK_cons, getK, getK_append, getK_del, Ob.under, D.under, under_rowsD, under_entD, hm, hr, hne, hne2, hmr, Ne.symm hmr, under_tOb, under_tset, letsU, List.map_set] <;> (try omega)) (by simp [wkU, keepE, getK_cons, getK, D.under, hm, hr, hne, hne2, hmr, Ne.symm hmr, under_tOb, under_tset, letsU, List.map_set] <;> (try omega)) (by simp [wkE, keepE, getK_cons, getK, hm, hr, hne, hne2, hmr, Ne.symm hmr, under_tOb, under_tset, letsU, List.map_set] <;> (try omega))), (by simp [hn] <;> (try omega)), ?_⟩; try simp)
            all_goals first | rfl | simp [outX, outV, her, chF]
          · simp only [entX, outX, if_true] at hc3 hTT
            rw [hc3]
            repeat' (first
    | (refine H_cons ?_; simp [hne, hne2, hmr, Ne.symm hmr, hx, hy, hz, hs, letsU, hst, List.set_set])
    | (refine H_nil ?_; simp [hne, hne2, hmr, Ne.symm hmr, hx, hy, hz, hs, letsU, hst, List.set_set])
    | (refine ⟨by omega, ?_⟩)
    | (refine V_sseq ?_; simp [hne, hne2, hmr, Ne.symm hmr, hx, hy, hz, hs, letsU, hst, List.set_set])
    | (refine V_scond ?_; simp [hne, hne2, hmr, Ne.symm hmr, hx, hy, hz, hs, letsU, hst, List.set_set])
    | (refine V_sregion ?_; simp [hne, hne2, hmr, Ne.symm hmr, hx, hy, hz, hs, letsU, hst, List.set_set])
    | (refine V_ret ?_; simp only [RunK])
    | (refine V_skip ?_; simp only [RunK])
    | (refine ⟨?_, by omega⟩)
    | (refine CallP.okL (hTT _ (by first | omega | (simp; done) | (simp; omega) | fail)) (by first | (simp [hne, hne2, hmr, Ne.symm hmr, hx, hy, hz, hs, letsU, hst, List.set_set, getK_cons, getK, getK_append, getK_del, getK_setOb, applyW, del]; done) | fail) (by rfl) (by first | assumption | (simp; done) | fail) (by rfl) (by simp) ?_; (try simp [hne, hne2, hmr, Ne.symm hmr, hx, hy, hz, hs, letsU, hst, List.set_set, delL, del]))
    | fail)
            (refine EndW.here ?_; (first | (refine EndOK.fin (.inr rfl) ?_) | (refine EndOK.fin (.inl rfl) ?_)); simp [resD, oneOrTup, Tryd.results74, hm, hr, hne, hne2, hmr, Ne.symm hmr, under_tOb, under_tset, letsU, List.map_set]; refine FinOK.cut [(m, mOb lets r g), (r, tOb (t1.set c (v, 0, true)))] (nx) (by simp [getK_cons, getK, getK_append, getK_del, Ob.under, D.under, under_rowsD, under_entD, hm, hr, hne, hne2, hmr, Ne.symm hmr, under_tOb, under_tset, letsU, List.map_set] <;> omega) (by simp [D.under]) (by simp [hn]) ?_; try simp)
            all_goals first | rfl | simp [outX, outV]
        · have hc3 := congrFun hc2 t
          rw [nmT_done hgz hx hs hy] at hc3
          rw [hc3] at hpan ⊢
          by_cases he : e0 = 0
          · repeat' (first
    | (refine H_cons ?_; simp [hne, hne2, hmr, Ne.symm hmr, hx, hy, hs, he, letsU])
    | (refine H_nil ?_; simp [hne, hne2, hmr, Ne.symm hmr, hx, hy, hs, he, letsU])
    | (refine ⟨by omega, ?_⟩)
    | (refine V_sseq ?_; simp [hne, hne2, hmr, Ne.symm hmr, hx, hy, hs, he, letsU])
    | (refine V_scond ?_; simp [hne, hne2, hmr, Ne.symm hmr, hx, hy, hs, he, letsU])
    | (refine V_ret ?_; simp only [RunK])
    | (refine V_skip ?_; simp only [RunK])
    | (refine ⟨?_, by omega⟩)
    | fail)
            (refine EndW.here ?_; (first | (refine EndOK.fin (.inr rfl) ?_) | (refine EndOK.fin (.inl rfl) ?_)); simp [resD, oneOrTup, Tryd.results74, hm, hr, hne, hne2, hmr, Ne.symm hmr, under_tOb, letsU]; refine FinOK.cut [(m, mOb lets r g), (r, tOb t)] (nx) (by simp [getK_cons, getK, getK_append, getK_del, Ob.under, D.under, under_rowsD, under_entD, hm, hr, hne, hne2, hmr, Ne.symm hmr, under_tOb, letsU] <;> omega) (by simp [D.under]) (by simp [hn]) ?_; try simp)
            all_goals first | rfl | simp [outX, outV, he]
          · repeat' (first
    | (refine H_cons ?_; simp [hne, hne2, hmr, Ne.symm hmr, hx, hy, hs, he, letsU])
    | (refine H_nil ?_; simp [hne, hne2, hmr, Ne.symm hmr, hx, hy, hs, he, letsU])
    | (refine ⟨by omega, ?_⟩)
    | (refine V_sseq ?_; simp [hne, hne2, hmr, Ne.symm hmr, hx, hy, hs, he, letsU])
    | (refine V_scond ?_; simp [hne, hne2, hmr, Ne.symm hmr, hx, hy, hs, he, letsU])
    | (refine V_sregion ?_; simp [hne, hne2, hmr, Ne.symm hmr, hx, hy, hs, he, letsU])
    | (refine V_skip ?_; simp only [RunK])
    | (refine ⟨?_, by omega⟩)
    | fail)
            (refine hpan _ _ ⟨{ n := _, env := [], obs := [(m, mOb lets r g), (r, tOb t)], next := nx }, (Wk.cut rfl (by simp [hn]) (by simp [wkO, getK_cons, getK, getK_append, getK_del, Ob.under, D.under, under_rowsD, under_entD, hm, hr, hne, hne2, hmr, Ne.symm hmr, under_tOb, letsU] <;> (try omega)) (by simp [wkU, keepE, getK_cons, getK, D.under, hm, hr, hne, hne2, hmr, Ne.symm hmr, under_tOb, letsU] <;> (try omega)) (by simp [wkE, keepE, getK_cons, getK, hm, hr, hne, hne2, hmr, Ne.symm hmr, under_tOb, letsU] <;> (try omega))), (by simp [hn] <;> (try omega)), ?_⟩; try simp)
            all_goals first | rfl | simp [outX, outV, he, chF]
      · rw [nmT_other hgz hx hs] at hc2
        repeat' (first
    | (refine H_cons ?_; simp [hne, hne2, hmr, Ne.symm hmr, hx, hs, letsU])
    | (refine H_nil ?_; simp [hne, hne2, hmr, Ne.symm hmr, hx, hs, letsU])
    | (refine ⟨by omega, ?_⟩)
    | (refine V_sseq ?_; simp [hne, hne2, hmr, Ne.symm hmr, hx, hs, letsU])
    | (refine V_scond ?_; simp [hne, hne2, hmr, Ne.symm hmr, hx, hs, letsU])
    | (refine V_sregion ?_; simp [hne, hne2, hmr, Ne.symm hmr, hx, hs, letsU])
    | (refine V_skip ?_; simp only [RunK])
    | (refine V_exit ?_; simp [RunK])
    | fail)
        refine LoopW.next ⟨c, by omega, hc2⟩ (by simp) ?_
        exact (Wk.cut rfl (by simp [hn, St.lp]) (by simp [wkO, St.lp, getK_cons, getK, Ob.under, D.under, under_rowsD, under_entD, hm, hr, hne, hne2, hmr, Ne.symm hmr, under_tOb, letsU]) (by simp [wkU, St.lp, keepE, getK_cons, getK, D.under, hm, hr, hne, hne2, hmr, Ne.symm hmr, under_tOb, letsU]) (by simp [wkE, St.lp, keepE, getK_cons, getK, hm, hr, hne, hne2, hmr, Ne.symm hmr, under_tOb, letsU] <;> (try (intros; simp_all; done)) <;> (try (intros; omega)) <;> (try grind)))
  · rw [hga] at hg
    simp only [Option.map_some] at hg
    rw [nmT_given (by exact hga) n]
    simp only [TM.ret, outV]
    (refine RetX.of_bodyW Tryd.func74 rfl (by simp) fun Γ hn hpan => ?_); simp only [entry, List.zipIdx_cons, List.zipIdx_nil, List.map_cons, List.map_nil, Nat.zero_add, Tryd.ntmps74]
    repeat' (first
    | (refine H_cons ?_; simp [hne, hne2, hmr, Ne.symm hmr, hg])
    | (refine H_nil ?_; simp [hne, hne2, hmr, Ne.symm hmr, hg])
    | (refine V_sseq ?_; simp [hne, hne2, hmr, Ne.symm hmr, hg])
    | (refine V_scond ?_; simp [hne, hne2, hmr, Ne.symm hmr, hg])
    | (refine V_ret ?_; simp only [RunK])
    | fail)
    (refine EndW.here ?_; (first | (refine EndOK.fin (.inr rfl) ?_) | (refine EndOK.fin (.inl rfl) ?_)); simp [resD, oneOrTup, Tryd.results74, hm, hr, hne, hne2, hmr, Ne.symm hmr, under_tOb]; refine FinOK.cut [(m, mOb lets r g), (r, tOb t)] (nx) (by simp [getK_cons, getK, getK_append, getK_del, Ob.under, D.under, under_rowsD, under_entD, hm, hr, hne, hne2, hmr, Ne.symm hmr, under_tOb] <;> omega) (by simp [D.under]) (by simp [hn]) ?_; try simp)

theorem tdef_ret (i j nx : Nat) (hi : i < nx) (hj : j < nx) (hij : i ≠ j) (v e : Int) :
    RetDf Tryd.prog 45 [.ptr i 0, .ptr j 0] [(i, .box [.u (.int .i64 v)]), (j, .box [.u (.int .i64 e)])] nx .returning
      (fun u o n => settle u = .returning ∧ n = nx ∧ o = [(i, .box [.u (.int .i64 v)]), (j, .box [.u (.int .i64 e)])]) := by
  have hne := nef hi
  have hne2 := nef hj
  refine RetDf.of_body Tryd.func45 rfl (by simp) (by simp) rfl fun Γ hn => ?_
  simp [entry, recU, Tryd.ntmps45]
  repeat' (first
    | (refine H_cons ?_; simp [hne, hne2, hij, Ne.symm hij])
    | (refine H_nil ?_; simp [hne, hne2, hij, Ne.symm hij])
    | (refine V_sseq ?_; simp [hne, hne2, hij, Ne.symm hij])
    | (refine V_scond ?_; simp [hne, hne2, hij, Ne.symm hij])
    | (refine V_skip ?_; simp only [RunK])
    | fail)
  (refine ⟨by simp, { n := _, env := [], obs := [(i, .box [.u (.int .i64 v)]), (j, .box [.u (.int .i64 e)])], next := nx }, (Wk.cut rfl (by simp [hn]) (by simp [wkO, getK_cons, getK, getK_append, getK_del, Ob.under, D.under, under_rowsD, under_entD, hi, hj, hne, hne2, hij, Ne.symm hij]) (by simp [wkU, keepE, getK_cons, getK, D.under, hi, hj, hne, hne2, hij, Ne.symm hij]) (by simp [wkE, keepE, getK_cons, getK, hi, hj, hne, hne2, hij, Ne.symm hij])), by simp [hn], ?_⟩; try simp)
  all_goals rfl
theorem tdef_pan (i j nx : Nat) (hi : i < nx) (hj : j < nx) (hij : i ≠ j) (v e err : Int) :
    RetDf Tryd.prog 45 [.ptr i 0, .ptr j 0] [(i, .box [.u (.int .i64 v)]), (j, .box [.u (.int .i64 e)])] nx (.panicking (chF err))
      (fun u o n => settle u = .returning ∧ n = nx ∧ o = [(i, .box [.u (.int .i64 0)]), (j, .box [.u (.int .i64 err)])]) := by
  have hne := nef hi
  have hne2 := nef hj
  refine RetDf.of_body Tryd.func45 rfl (by simp) (by simp) rfl fun Γ hn => ?_
  simp [entry, recU, chF, Tryd.ntmps45]
  repeat' (first
    | (refine H_cons ?_; simp [hne, hne2, hij, Ne.symm hij])
    | (refine HD4_val rfl ?_; simp [hne, hne2, hij, Ne.symm hij])
    | (refine HD4_chg rfl ?_; simp [hne, hne2, hij, Ne.symm hij])
    | (refine H_nil ?_; simp [hne, hne2, hij, Ne.symm hij])
    | (refine V_sseq ?_; simp [hne, hne2, hij, Ne.symm hij])
    | (refine V_scond ?_; simp [hne, hne2, hij, Ne.symm hij])
    | (refine HD4_nil (hC _ (okP4_ren [i, j] nx (by simp <;> omega) (by simp <;> omega) (by apply Exists.intro; apply And.intro; (focus (repeat' (first | exact KF.nil | exact KL.nil | apply KF.cons | apply KL.cons 0 rfl | apply KL.cons 1 rfl | apply KL.cons 2 rfl | apply KL.cons 3 rfl | apply KL.cons 4 rfl | apply KL.cons 5 rfl | apply KL.cons 6 rfl | apply KL.cons 7 rfl | apply KL.cons 8 rfl | apply KL.cons 9 rfl))); kernel_rfl))) (hk _ ?_); clear hC hk C k; simp only [RunK])
    | (refine V_drawX rfl (by kernel_rfl) (by first | (simp [hn]; done) | (simp [hn]; omega) | fail) fun C k hC hk => ?_; simp [hne, hne2, hij, Ne.symm hij])
    | (refine V_skip ?_; simp only [RunK])
    | fail)
  (refine ⟨by simp, { n := _, env := [], obs := [(i, .box [.u (.int .i64 0)]), (j, .box [.u (.int .i64 err)])], next := nx }, (Wk.cut rfl (by simp [hn]) (by simp [wkO, getK_cons, getK, getK_append, getK_del, Ob.under, D.under, under_rowsD, under_entD, hi, hj, hne, hne2, hij, Ne.symm hij]) (by simp [wkU, keepE, getK_cons, getK, D.under, hi, hj, hne, hne2, hij, Ne.symm hij]) (by simp [wkE, keepE, getK_cons, getK, hi, hj, hne, hne2, hij, Ne.symm hij])), by simp [hn], ?_⟩; try simp)
  all_goals rfl
theorem try_ret {lets : List Let} {r : Nat} {g : GM} {m n : Nat} {e : Exp} (hV : ValOK lets r g m n e) (hmr : m ≠ r) : TryOK lets r g m n e := by
  intro t nx hm hr ht
  have hne := nef hm
  have hne2 := nef hr
  have hv := fun nx' (h : nx ≤ nx') => hV t nx' (by omega) (by omega) ht
  unfold eagg at hv ⊢
  rcases hvl : valL lets (gF g) n e t with ⟨er | v, t1⟩
  · simp only [hvl, outV, entX] at hv ⊢
    (refine RetX.of_bodyD Tryd.func27 rfl (by simp) fun Γ hn hdfr hpan hesc => ?_); simp only [entry, List.zipIdx_cons, List.zipIdx_nil, List.map_cons, List.map_nil, Nat.zero_add, Tryd.ntmps27]
    rw [hold_defer]
    repeat' (first
    | (refine H_cons ?_; simp [hne, hne2, hmr, Ne.symm hmr, Nat.add_assoc, del])
    | (refine H_nil ?_; simp [hne, hne2, hmr, Ne.symm hmr, Nat.add_assoc, del])
    | (refine V_sseq ?_; simp [hne, hne2, hmr, Ne.symm hmr, Nat.add_assoc, del])
    | fail)
    refine V_defer hesc hdfr rfl (by simp) ?_
    have hn0 := hn
    have hpan0 := hpan
    intro Γ' hn hpan
    simp
    repeat' (first
    | (refine H_cons ?_; simp [hne, hne2, hmr, Ne.symm hmr, Nat.add_assoc, del])
    | (refine V_sseq ?_; simp [hne, hne2, hmr, Ne.symm hmr, Nat.add_assoc, del])
    | (refine CallP.panL (hv _ (by first | omega | (simp; done) | (simp; omega) | fail)) (by first | (simp [hne, hne2, hmr, Ne.symm hmr, Nat.add_assoc, del, getK_cons, getK, getK_append, getK_del, getK_setOb, applyW, del]; done) | fail) (by rfl) (by first | assumption | (simp; done) | fail) (by rfl) (by simp) ?_; refine ⟨_, Wk.refl _, ?_⟩; (try simp [hne, hne2, hmr, Ne.symm hmr, Nat.add_assoc, del, delL, del]))
    | fail)
    refine hpan _ _ ?_
    refine LeaveD.of [(nx + 1, .box [.u (.int .i64 0)]), (nx + 2, .box [.u (.int .i64 0)])] (by simp [hne, hne2, getK_cons, getK, getK_append, getK_del]) (tdef_pan (nx + 1) (nx + 2) _ (by simp) (by simp) (by simp) 0 0 _) ?_
    simp only [show Γ.base.n0 = nx from hn0]
    simp [delL, del, hne, hne2, hmr, Ne.symm hmr]
    (refine EndW.here ?_; (first | (refine EndOK.fin (.inr rfl) ?_) | (refine EndOK.fin (.inl rfl) ?_)); simp [resD, oneOrTup, Tryd.results27, hm, hr, hne, hne2, hmr, Ne.symm hmr, under_tOb, letsU, Ctx.base, hn0]; refine FinOK.cut [(m, mOb lets r g), (r, tOb t1)] (nx) (by simp [getK_cons, getK, getK_append, getK_del, Ob.under, D.under, under_rowsD, under_entD, hm, hr, hne, hne2, hmr, Ne.symm hmr, under_tOb, letsU, Ctx.base, hn0] <;> omega) (by simp [D.under]) (by simp [hn]) ?_; try simp)
  · simp only [hvl, outV, entX] at hv ⊢
    (refine RetX.of_bodyD Tryd.func27 rfl (by simp) fun Γ hn hdfr hpan hesc => ?_); simp only [entry, List.zipIdx_cons, List.zipIdx_nil, List.map_cons, List.map_nil, Nat.zero_add, Tryd.ntmps27]
    rw [hold_defer]
    repeat' (first
    | (refine H_cons ?_; simp [hne, hne2, hmr, Ne.symm hmr, Nat.add_assoc, del])
    | (refine H_nil ?_; simp [hne, hne2, hmr, Ne.symm hmr, Nat.add_assoc, del])
    | (refine V_sseq ?_; simp [hne, hne2, hmr, Ne.symm hmr, Nat.add_assoc, del])
    | fail)
    refine V_defer hesc hdfr rfl (by simp) ?_
    have hn0 := hn
    have hpan0 := hpan
    intro Γ' hn hpan
    simp
    repeat' (first
    | (refine H_cons ?_; simp [hne, hne2, hmr, Ne.symm hmr, Nat.add_assoc, del])
    | (refine H_nil ?_; simp [hne, hne2, hmr, Ne.symm hmr, Nat.add_assoc, del])
    | (refine V_sseq ?_; simp [hne, hne2, hmr, Ne.symm hmr, Nat.add_assoc, del])
    | (refine V_ret ?_; simp only [RunK])
    | (refine CallP.okL (hv _ (by first | omega | (simp; done) | (simp; omega) | fail)) (by first | (simp [hne, hne2, hmr, Ne.symm hmr, Nat.add_assoc, del, getK_cons, getK, getK_append, getK_del, getK_setOb, applyW, del]; done) | fail) (by rfl) (by first | assumption | (simp; done) | fail) (by rfl) (by simp) ?_; (try simp [hne, hne2, hmr, Ne.symm hmr, Nat.add_assoc, del, delL, del]))
    | fail)
    refine ⟨rfl, ?_⟩
    refine LeaveD.of [(nx + 1, .box [.u (.int .i64 v)]), (nx + 2, .box [.u (.int .i64 0)])] (by simp [hne, hne2, getK_cons, getK, getK_append, getK_del]) (tdef_ret (nx + 1) (nx + 2) _ (by simp) (by simp) (by simp) v 0) ?_
    simp only [show Γ.base.n0 = nx from hn0]
    simp [delL, del, hne, hne2, hmr, Ne.symm hmr]
    (refine EndW.here ?_; (first | (refine EndOK.fin (.inr rfl) ?_) | (refine EndOK.fin (.inl rfl) ?_)); simp [resD, oneOrTup, Tryd.results27, hm, hr, hne, hne2, hmr, Ne.symm hmr, under_tOb, letsU, Ctx.base, hn0]; refine FinOK.cut [(m, mOb lets r g), (r, tOb t1)] (nx) (by simp [getK_cons, getK, getK_append, getK_del, Ob.under, D.under, under_rowsD, under_entD, hm, hr, hne, hne2, hmr, Ne.symm hmr, under_tOb, letsU, Ctx.base, hn0] <;> omega) (by simp [D.under]) (by simp [hn]) ?_; try simp)

def NameOK (lets : List Let) (r : Nat) (g : GM) (m n : Nat) : Prop := ∀ (s : List UInt8) (t : Tab) (nx : Nat), m < nx → r < nx → TabOK lets.length t →
  RetX Tryd.prog 74 [.ptr m 0, .u (.str s), .u (.int .i64 n)] [(m, mOb lets r g), (r, tOb t)] nx
    (fun o obs n' => o = outV (nmT lets (gF g) n s t).1 ∧ obs = [(m, mOb lets r g), (r, tOb (nmT lets (gF g) n s t).2)] ∧ n' = nx)
theorem value_num {lets : List Let} {r : Nat} {g : GM} {m n : Nat} {e : Exp} (hmr : m ≠ r) (h0 : e.op = 0) : ValOK lets r g m n e := by
  intro t nx hm hr ht
  have hne := nef hm
  have hne2 := nef hr
  unfold eagg
  obtain ⟨T, rfl⟩ : ∃ T, T = t := ⟨_, rfl⟩
  rw [valL_num h0]
  have hck := fun nx' => check_ret e.n nx'
  cases hk0 : keptX e.n with
  | ok v =>
    simp only [hk0, outV] at hck ⊢
    (refine RetX.of_bodyW Tryd.func46 rfl (by simp) fun Γ hn hpan => ?_); simp only [entry, List.zipIdx_cons, List.zipIdx_nil, List.map_cons, List.map_nil, Nat.zero_add, Tryd.ntmps46]
    repeat' (first
    | (refine H_cons ?_; simp [hne, hne2, hmr, Ne.symm hmr, h0, Nat.add_assoc, del])
    | (refine H_nil ?_; simp [hne, hne2, hmr, Ne.symm hmr, h0, Nat.add_assoc, del])
    | (refine V_sseq ?_; simp [hne, hne2, hmr, Ne.symm hmr, h0, Nat.add_assoc, del])
    | (refine V_scond ?_; simp [hne, hne2, hmr, Ne.symm hmr, h0, Nat.add_assoc, del])
    | (refine V_sblock ?_; simp [hne, hne2, hmr, Ne.symm hmr, h0, Nat.add_assoc, del])
    | (refine V_ret ?_; simp only [RunK])
    | (refine CallP.okL (hck _) (by first | (simp [hne, hne2, hmr, Ne.symm hmr, h0, Nat.add_assoc, del, getK_cons, getK, getK_append, getK_del, getK_setOb, applyW, del]; done) | fail) (by rfl) (by first | assumption | (simp; done) | fail) (by rfl) (by simp) ?_; (try simp [hne, hne2, hmr, Ne.symm hmr, h0, Nat.add_assoc, del, delL, del]))
    | fail)
    (refine EndW.here ?_; (first | (refine EndOK.fin (.inr rfl) ?_) | (refine EndOK.fin (.inl rfl) ?_)); simp [resD, oneOrTup, Tryd.results46, hm, hr, hne, hne2, hmr, Ne.symm hmr, under_tOb, letsU]; refine FinOK.cut [(m, mOb lets r g), (r, tOb T)] (nx) (by simp [getK_cons, getK, getK_append, getK_del, Ob.under, D.under, under_rowsD, under_entD, hm, hr, hne, hne2, hmr, Ne.symm hmr, under_tOb, letsU] <;> omega) (by simp [D.under]) (by simp [hn]) ?_; try simp)
  | error er =>
    simp only [hk0, outV] at hck ⊢
    (refine RetX.of_bodyW Tryd.func46 rfl (by simp) fun Γ hn hpan => ?_); simp only [entry, List.zipIdx_cons, List.zipIdx_nil, List.map_cons, List.map_nil, Nat.zero_add, Tryd.ntmps46]
    repeat' (first
    | (refine H_cons ?_; simp [hne, hne2, hmr, Ne.symm hmr, h0, Nat.add_assoc, del])
    | (refine H_nil ?_; simp [hne, hne2, hmr, Ne.symm hmr, h0, Nat.add_assoc, del])
    | (refine V_sseq ?_; simp [hne, hne2, hmr, Ne.symm hmr, h0, Nat.add_assoc, del])
    | (refine V_scond ?_; simp [hne, hne2, hmr, Ne.symm hmr, h0, Nat.add_assoc, del])
    | (refine V_sblock ?_; simp [hne, hne2, hmr, Ne.symm hmr, h0, Nat.add_assoc, del])
    | (refine CallP.panL (hck _) (by first | (simp [hne, hne2, hmr, Ne.symm hmr, h0, Nat.add_assoc, del, getK_cons, getK, getK_append, getK_del, getK_setOb, applyW, del]; done) | fail) (by rfl) (by first | assumption | (simp; done) | fail) (by rfl) (by simp) ?_; refine ⟨_, Wk.refl _, ?_⟩; (try simp [hne, hne2, hmr, Ne.symm hmr, h0, Nat.add_assoc, del, delL, del]))
    | fail)
    (refine hpan _ _ ⟨{ n := _, env := [], obs := [(m, mOb lets r g), (r, tOb T)], next := nx }, (Wk.cut rfl (by simp [hn]) (by simp [wkO, getK_cons, getK, getK_append, getK_del, Ob.under, D.under, under_rowsD, under_entD, hm, hr, hne, hne2, hmr, Ne.symm hmr, under_tOb, letsU, getK_append, getK_del, getK_cons, getK] <;> (try omega)) (by simp [wkU, keepE, getK_cons, getK, D.under, hm, hr, hne, hne2, hmr, Ne.symm hmr, under_tOb, letsU, getK_append, getK_del, getK_cons, getK] <;> (try omega)) (by simp [wkE, keepE, getK_cons, getK, hm, hr, hne, hne2, hmr, Ne.symm hmr, under_tOb, letsU, getK_append, getK_del, getK_cons, getK] <;> (try omega))), (by simp [hn] <;> (try omega)), ?_⟩; try simp)
theorem value_name {lets : List Let} {r : Nat} {g : GM} {m n : Nat} {e : Exp} (hmr : m ≠ r) (h0 : e.op = 1) (hN : NameOK lets r g m n) : ValOK lets r g m n e := by
  intro t nx hm hr ht
  have hne := nef hm
  have hne2 := nef hr
  unfold eagg
  rw [valL_name h0]
  have hck := fun nx' (h : nx ≤ nx') => hN e.s t nx' (by omega) (by omega) ht
  rcases hk0 : nmT lets (gF g) n e.s t with ⟨er | v, T⟩
  · simp only [hk0, outV] at hck ⊢
    (refine RetX.of_bodyW Tryd.func46 rfl (by simp) fun Γ hn hpan => ?_); simp only [entry, List.zipIdx_cons, List.zipIdx_nil, List.map_cons, List.map_nil, Nat.zero_add, Tryd.ntmps46]
    repeat' (first
    | (refine H_cons ?_; simp [hne, hne2, hmr, Ne.symm hmr, h0, Nat.add_assoc, del])
    | (refine H_nil ?_; simp [hne, hne2, hmr, Ne.symm hmr, h0, Nat.add_assoc, del])
    | (refine V_sseq ?_; simp [hne, hne2, hmr, Ne.symm hmr, h0, Nat.add_assoc, del])
    | (refine V_scond ?_; simp [hne, hne2, hmr, Ne.symm hmr, h0, Nat.add_assoc, del])
    | (refine V_sblock ?_; simp [hne, hne2, hmr, Ne.symm hmr, h0, Nat.add_assoc, del])
    | (refine CallP.panL (hck _ (by first | omega | (simp; done) | (simp; omega) | fail)) (by first | (simp [hne, hne2, hmr, Ne.symm hmr, h0, Nat.add_assoc, del, getK_cons, getK, getK_append, getK_del, getK_setOb, applyW, del]; done) | fail) (by rfl) (by first | assumption | (simp; done) | fail) (by rfl) (by simp) ?_; refine ⟨_, Wk.refl _, ?_⟩; (try simp [hne, hne2, hmr, Ne.symm hmr, h0, Nat.add_assoc, del, delL, del]))
    | fail)
    (refine hpan _ _ ⟨{ n := _, env := [], obs := [(m, mOb lets r g), (r, tOb T)], next := nx }, (Wk.cut rfl (by simp [hn]) (by simp [wkO, getK_cons, getK, getK_append, getK_del, Ob.under, D.under, under_rowsD, under_entD, hm, hr, hne, hne2, hmr, Ne.symm hmr, under_tOb, letsU, getK_append, getK_del, getK_cons, getK] <;> (try omega)) (by simp [wkU, keepE, getK_cons, getK, D.under, hm, hr, hne, hne2, hmr, Ne.symm hmr, under_tOb, letsU, getK_append, getK_del, getK_cons, getK] <;> (try omega)) (by simp [wkE, keepE, getK_cons, getK, hm, hr, hne, hne2, hmr, Ne.symm hmr, under_tOb, letsU, getK_append, getK_del, getK_cons, getK] <;> (try omega))), (by simp [hn] <;> (try omega)), ?_⟩; try simp)
  · simp only [hk0, outV] at hck ⊢
    (refine RetX.of_bodyW Tryd.func46 rfl (by simp) fun Γ hn hpan => ?_); simp only [entry, List.zipIdx_cons, List.zipIdx_nil, List.map_cons, List.map_nil, Nat.zero_add, Tryd.ntmps46]
    repeat' (first
    | (refine H_cons ?_; simp [hne, hne2, hmr, Ne.symm hmr, h0, Nat.add_assoc, del])
    | (refine H_nil ?_; simp [hne, hne2, hmr, Ne.symm hmr, h0, Nat.add_assoc, del])
    | (refine V_sseq ?_; simp [hne, hne2, hmr, Ne.symm hmr, h0, Nat.add_assoc, del])
    | (refine V_scond ?_; simp [hne, hne2, hmr, Ne.symm hmr, h0, Nat.add_assoc, del])
    | (refine V_sblock ?_; simp [hne, hne2, hmr, Ne.symm hmr, h0, Nat.add_assoc, del])
    | (refine V_ret ?_; simp only [RunK])
    | (refine CallP.okL (hck _ (by first | omega | (simp; done) | (simp; omega) | fail)) (by first | (simp [hne, hne2, hmr, Ne.symm hmr, h0, Nat.add_assoc, del, getK_cons, getK, getK_append, getK_del, getK_setOb, applyW, del]; done) | fail) (by rfl) (by first | assumption | (simp; done) | fail) (by rfl) (by simp) ?_; (try simp [hne, hne2, hmr, Ne.symm hmr, h0, Nat.add_assoc, del, delL, del]))
    | fail)
    (refine EndW.here ?_; (first | (refine EndOK.fin (.inr rfl) ?_) | (refine EndOK.fin (.inl rfl) ?_)); simp [resD, oneOrTup, Tryd.results46, hm, hr, hne, hne2, hmr, Ne.symm hmr, under_tOb, letsU]; refine FinOK.cut [(m, mOb lets r g), (r, tOb T)] (nx) (by simp [getK_cons, getK, getK_append, getK_del, Ob.under, D.under, under_rowsD, under_entD, hm, hr, hne, hne2, hmr, Ne.symm hmr, under_tOb, letsU] <;> omega) (by simp [D.under]) (by simp [hn]) ?_; try simp)
theorem value_and {lets : List Let} {r : Nat} {g : GM} {m n : Nat} {e x y : Exp} (hmr : m ≠ r) (h0 : e.op = 10) (he : e.args = [x, y]) (hVx : ValOK lets r g m n x) (hTx : TMok lets.length (valL lets (gF g) n x)) (hVy : ValOK lets r g m n y) (hTy : TMok lets.length (valL lets (gF g) n y)) : ValOK lets r g m n e := by
  intro t nx hm hr ht
  have hne := nef hm
  have hne2 := nef hr
  unfold eagg
  have hx := arg_ret hVx e 0 (by rw [he]; rfl) hmr nx hm hr t
  have hxok := hTx t ht
  rcases hvx : valL lets (gF g) n x t with ⟨er | a, t1⟩
  · obtain ⟨T, rfl⟩ : ∃ T, T = t1 := ⟨_, rfl⟩
    rw [valL_err (by omega) (by omega) he hvx]
    simp only [hvx, outV] at hx ⊢
    (refine RetX.of_bodyW Tryd.func46 rfl (by simp) fun Γ hn hpan => ?_); simp only [entry, List.zipIdx_cons, List.zipIdx_nil, List.map_cons, List.map_nil, Nat.zero_add, Tryd.ntmps46]
    repeat' (first
    | (refine H_cons ?_; simp [hne, hne2, hmr, Ne.symm hmr, h0, Nat.add_assoc, del])
    | (refine H_nil ?_; simp [hne, hne2, hmr, Ne.symm hmr, h0, Nat.add_assoc, del])
    | (refine V_sseq ?_; simp [hne, hne2, hmr, Ne.symm hmr, h0, Nat.add_assoc, del])
    | (refine V_scond ?_; simp [hne, hne2, hmr, Ne.symm hmr, h0, Nat.add_assoc, del])
    | (refine V_sblock ?_; simp [hne, hne2, hmr, Ne.symm hmr, h0, Nat.add_assoc, del])
    | (refine CallP.panL (hx _ (by first | omega | (simp; done) | (simp; omega) | fail) ht) (by first | (simp [hne, hne2, hmr, Ne.symm hmr, h0, Nat.add_assoc, del, getK_cons, getK, getK_append, getK_del, getK_setOb, applyW, del]; done) | fail) (by rfl) (by first | assumption | (simp; done) | fail) (by rfl) (by simp) ?_; refine ⟨_, Wk.refl _, ?_⟩; (try simp [hne, hne2, hmr, Ne.symm hmr, h0, Nat.add_assoc, del, delL, del]))
    | fail)
    (refine hpan _ _ ⟨{ n := _, env := [], obs := [(m, mOb lets r g), (r, tOb T)], next := nx }, (Wk.cut rfl (by simp [hn]) (by simp [wkO, getK_cons, getK, getK_append, getK_del, Ob.under, D.under, under_rowsD, under_entD, hm, hr, hne, hne2, hmr, Ne.symm hmr, under_tOb, letsU, getK_append, getK_del, getK_cons, getK] <;> (try omega)) (by simp [wkU, keepE, getK_cons, getK, D.under, hm, hr, hne, hne2, hmr, Ne.symm hmr, under_tOb, letsU, getK_append, getK_del, getK_cons, getK] <;> (try omega)) (by simp [wkE, keepE, getK_cons, getK, hm, hr, hne, hne2, hmr, Ne.symm hmr, under_tOb, letsU, getK_append, getK_del, getK_cons, getK] <;> (try omega))), (by simp [hn] <;> (try omega)), ?_⟩; try simp)
  · rw [hvx] at hxok
    simp only [hvx, outV] at hx
    have hxok1 := hxok.1
    simp only at hxok1
    have hy := arg_ret hVy e 1 (by rw [he]; rfl) hmr nx hm hr t1
    have hyok := hTy t1 hxok1
    by_cases ha : a = 0
    · subst ha
      rw [valL_and0 h0 he hvx]
      simp only [outV]
      obtain ⟨T, rfl⟩ : ∃ T, T = t1 := ⟨_, rfl⟩
      have htr := truth_fun false
      simp only [truthX, Bool.false_eq_true, if_false] at htr
      (refine RetX.of_bodyW Tryd.func46 rfl (by simp) fun Γ hn hpan => ?_); simp only [entry, List.zipIdx_cons, List.zipIdx_nil, List.map_cons, List.map_nil, Nat.zero_add, Tryd.ntmps46]
      repeat' (first
    | (refine H_cons ?_; simp [hne, hne2, hmr, Ne.symm hmr, h0, Nat.add_assoc, del])
    | (refine H_nil ?_; simp [hne, hne2, hmr, Ne.symm hmr, h0, Nat.add_assoc, del])
    | (refine V_sseq ?_; simp [hne, hne2, hmr, Ne.symm hmr, h0, Nat.add_assoc, del])
    | (refine V_scond ?_; simp [hne, hne2, hmr, Ne.symm hmr, h0, Nat.add_assoc, del])
    | (refine V_sblock ?_; simp [hne, hne2, hmr, Ne.symm hmr, h0, Nat.add_assoc, del])
    | (refine V_ret ?_; simp only [RunK])
    | (refine CallP.fun_ (htr) (by first | rfl | fail) (by first | assumption | (simp; done) | fail) (by first | (simp [hne, hne2, hmr, Ne.symm hmr, h0, Nat.add_assoc, del]; done) | (simp [hne, hne2, hmr, Ne.symm hmr, h0, Nat.add_assoc, del]; rfl) | fail) (by first | (simp; done) | fail) (fun d hd => ?_); subst hd; (try simp [hne, hne2, hmr, Ne.symm hmr, h0, Nat.add_assoc, del]))
    | (refine CallP.okL (hx _ (by first | omega | (simp; done) | (simp; omega) | fail) ht) (by first | (simp [hne, hne2, hmr, Ne.symm hmr, h0, Nat.add_assoc, del, getK_cons, getK, getK_append, getK_del, getK_setOb, applyW, del]; done) | fail) (by rfl) (by first | assumption | (simp; done) | fail) (by rfl) (by simp) ?_; (try simp [hne, hne2, hmr, Ne.symm hmr, h0, Nat.add_assoc, del, delL, del]))
    | fail)
      (refine EndW.here ?_; (first | (refine EndOK.fin (.inr rfl) ?_) | (refine EndOK.fin (.inl rfl) ?_)); simp [resD, oneOrTup, Tryd.results46, hm, hr, hne, hne2, hmr, Ne.symm hmr, under_tOb, letsU]; refine FinOK.cut [(m, mOb lets r g), (r, tOb T)] (nx) (by simp [getK_cons, getK, getK_append, getK_del, Ob.under, D.under, under_rowsD, under_entD, hm, hr, hne, hne2, hmr, Ne.symm hmr, under_tOb, letsU] <;> omega) (by simp [D.under]) (by simp [hn]) ?_; try simp)
    · skip
      rcases hvy : valL lets (gF g) n y t1 with ⟨er | b, T⟩
      · rw [valL_andE h0 he hvx ha hvy]
        simp only [hvy, outV] at hy ⊢
        (refine RetX.of_bodyW Tryd.func46 rfl (by simp) fun Γ hn hpan => ?_); simp only [entry, List.zipIdx_cons, List.zipIdx_nil, List.map_cons, List.map_nil, Nat.zero_add, Tryd.ntmps46]
        repeat' (first
    | (refine H_cons ?_; simp [hne, hne2, hmr, Ne.symm hmr, h0, Nat.add_assoc, del, ha])
    | (refine H_nil ?_; simp [hne, hne2, hmr, Ne.symm hmr, h0, Nat.add_assoc, del, ha])
    | (refine V_sseq ?_; simp [hne, hne2, hmr, Ne.symm hmr, h0, Nat.add_assoc, del, ha])
    | (refine V_scond ?_; simp [hne, hne2, hmr, Ne.symm hmr, h0, Nat.add_assoc, del, ha])
    | (refine V_sblock ?_; simp [hne, hne2, hmr, Ne.symm hmr, h0, Nat.add_assoc, del, ha])
    | (refine CallP.okL (hx _ (by first | omega | (simp; done) | (simp; omega) | fail) ht) (by first | (simp [hne, hne2, hmr, Ne.symm hmr, h0, Nat.add_assoc, del, ha, getK_cons, getK, getK_append, getK_del, getK_setOb, applyW, del]; done) | fail) (by rfl) (by first | assumption | (simp; done) | fail) (by rfl) (by simp) ?_; (try simp [hne, hne2, hmr, Ne.symm hmr, h0, Nat.add_assoc, del, ha, delL, del]))
    | (refine CallP.panL (hy _ (by first | omega | (simp; done) | (simp; omega) | fail) hxok1) (by first | (simp [hne, hne2, hmr, Ne.symm hmr, h0, Nat.add_assoc, del, ha, getK_cons, getK, getK_append, getK_del, getK_setOb, applyW, del]; done) | fail) (by rfl) (by first | assumption | (simp; done) | fail) (by rfl) (by simp) ?_; refine ⟨_, Wk.refl _, ?_⟩; (try simp [hne, hne2, hmr, Ne.symm hmr, h0, Nat.add_assoc, del, ha, delL, del]))
    | fail)
        (refine hpan _ _ ⟨{ n := _, env := [], obs := [(m, mOb lets r g), (r, tOb T)], next := nx }, (Wk.cut rfl (by simp [hn]) (by simp [wkO, getK_cons, getK, getK_append, getK_del, Ob.under, D.under, under_rowsD, under_entD, hm, hr, hne, hne2, hmr, Ne.symm hmr, under_tOb, letsU, getK_append, getK_del, getK_cons, getK] <;> (try omega)) (by simp [wkU, keepE, getK_cons, getK, D.under, hm, hr, hne, hne2, hmr, Ne.symm hmr, under_tOb, letsU, getK_append, getK_del, getK_cons, getK] <;> (try omega)) (by simp [wkE, keepE, getK_cons, getK, hm, hr, hne, hne2, hmr, Ne.symm hmr, under_tOb, letsU, getK_append, getK_del, getK_cons, getK] <;> (try omega))), (by simp [hn] <;> (try omega)), ?_⟩; try simp)
      · rw [valL_and h0 he hvx ha hvy]
        simp only [hvy, outV] at hy ⊢
        have htr := truth_fun (decide (b ≠ 0))
        by_cases hb : b = 0
        · simp only [hb, ne_eq, not_true_eq_false, decide_false] at htr hy ⊢
          (refine RetX.of_bodyW Tryd.func46 rfl (by simp) fun Γ hn hpan => ?_); simp only [entry, List.zipIdx_cons, List.zipIdx_nil, List.map_cons, List.map_nil, Nat.zero_add, Tryd.ntmps46]
          repeat' (first
    | (refine H_cons ?_; simp [hne, hne2, hmr, Ne.symm hmr, h0, Nat.add_assoc, del, ha, hb])
    | (refine H_nil ?_; simp [hne, hne2, hmr, Ne.symm hmr, h0, Nat.add_assoc, del, ha, hb])
    | (refine V_sseq ?_; simp [hne, hne2, hmr, Ne.symm hmr, h0, Nat.add_assoc, del, ha, hb])
    | (refine V_scond ?_; simp [hne, hne2, hmr, Ne.symm hmr, h0, Nat.add_assoc, del, ha, hb])
    | (refine V_sblock ?_; simp [hne, hne2, hmr, Ne.symm hmr, h0, Nat.add_assoc, del, ha, hb])
    | (refine V_ret ?_; simp only [RunK])
    | (refine CallP.fun_ (htr) (by first | rfl | fail) (by first | assumption | (simp; done) | fail) (by first | (simp [hne, hne2, hmr, Ne.symm hmr, h0, Nat.add_assoc, del, ha, hb]; done) | (simp [hne, hne2, hmr, Ne.symm hmr, h0, Nat.add_assoc, del, ha, hb]; rfl) | fail) (by first | (simp; done) | fail) (fun d hd => ?_); subst hd; (try simp [hne, hne2, hmr, Ne.symm hmr, h0, Nat.add_assoc, del, ha, hb]))
    | (refine CallP.okL (hx _ (by first | omega | (simp; done) | (simp; omega) | fail) ht) (by first | (simp [hne, hne2, hmr, Ne.symm hmr, h0, Nat.add_assoc, del, ha, hb, getK_cons, getK, getK_append, getK_del, getK_setOb, applyW, del]; done) | fail) (by rfl) (by first | assumption | (simp; done) | fail) (by rfl) (by simp) ?_; (try simp [hne, hne2, hmr, Ne.symm hmr, h0, Nat.add_assoc, del, ha, hb, delL, del]))
    | (refine CallP.okL (hy _ (by first | omega | (simp; done) | (simp; omega) | fail) hxok1) (by first | (simp [hne, hne2, hmr, Ne.symm hmr, h0, Nat.add_assoc, del, ha, hb, getK_cons, getK, getK_append, getK_del, getK_setOb, applyW, del]; done) | fail) (by rfl) (by first | assumption | (simp; done) | fail) (by rfl) (by simp) ?_; (try simp [hne, hne2, hmr, Ne.symm hmr, h0, Nat.add_assoc, del, ha, hb, delL, del]))
    | fail)
          (refine EndW.here ?_; (first | (refine EndOK.fin (.inr rfl) ?_) | (refine EndOK.fin (.inl rfl) ?_)); simp [resD, oneOrTup, Tryd.results46, hm, hr, hne, hne2, hmr, Ne.symm hmr, under_tOb, letsU]; refine FinOK.cut [(m, mOb lets r g), (r, tOb T)] (nx) (by simp [getK_cons, getK, getK_append, getK_del, Ob.under, D.under, under_rowsD, under_entD, hm, hr, hne, hne2, hmr, Ne.symm hmr, under_tOb, letsU] <;> omega) (by simp [D.under]) (by simp [hn]) ?_; try simp)
        · simp only [hb, ne_eq, not_false_eq_true, decide_true] at htr ⊢
          (refine RetX.of_bodyW Tryd.func46 rfl (by simp) fun Γ hn hpan => ?_); simp only [entry, List.zipIdx_cons, List.zipIdx_nil, List.map_cons, List.map_nil, Nat.zero_add, Tryd.ntmps46]
          repeat' (first
    | (refine H_cons ?_; simp [hne, hne2, hmr, Ne.symm hmr, h0, Nat.add_assoc, del, ha, hb])
    | (refine H_nil ?_; simp [hne, hne2, hmr, Ne.symm hmr, h0, Nat.add_assoc, del, ha, hb])
    | (refine V_sseq ?_; simp [hne, hne2, hmr, Ne.symm hmr, h0, Nat.add_assoc, del, ha, hb])
    | (refine V_scond ?_; simp [hne, hne2, hmr, Ne.symm hmr, h0, Nat.add_assoc, del, ha, hb])
    | (refine V_sblock ?_; simp [hne, hne2, hmr, Ne.symm hmr, h0, Nat.add_assoc, del, ha, hb])
    | (refine V_ret ?_; simp only [RunK])
    | (refine CallP.fun_ (htr) (by first | rfl | fail) (by first | assumption | (simp; done) | fail) (by first | (simp [hne, hne2, hmr, Ne.symm hmr, h0, Nat.add_assoc, del, ha, hb]; done) | (simp [hne, hne2, hmr, Ne.symm hmr, h0, Nat.add_assoc, del, ha, hb]; rfl) | fail) (by first | (simp; done) | fail) (fun d hd => ?_); subst hd; (try simp [hne, hne2, hmr, Ne.symm hmr, h0, Nat.add_assoc, del, ha, hb]))
    | (refine CallP.okL (hx _ (by first | omega | (simp; done) | (simp; omega) | fail) ht) (by first | (simp [hne, hne2, hmr, Ne.symm hmr, h0, Nat.add_assoc, del, ha, hb, getK_cons, getK, getK_append, getK_del, getK_setOb, applyW, del]; done) | fail) (by rfl) (by first | assumption | (simp; done) | fail) (by rfl) (by simp) ?_; (try simp [hne, hne2, hmr, Ne.symm hmr, h0, Nat.add_assoc, del, ha, hb, delL, del]))
    | (refine CallP.okL (hy _ (by first | omega | (simp; done) | (simp; omega) | fail) hxok1) (by first | (simp [hne, hne2, hmr, Ne.symm hmr, h0, Nat.add_assoc, del, ha, hb, getK_cons, getK, getK_append, getK_del, getK_setOb, applyW, del]; done) | fail) (by rfl) (by first | assumption | (simp; done) | fail) (by rfl) (by simp) ?_; (try simp [hne, hne2, hmr, Ne.symm hmr, h0, Nat.add_assoc, del, ha, hb, delL, del]))
    | fail)
          (refine EndW.here ?_; (first | (refine EndOK.fin (.inr rfl) ?_) | (refine EndOK.fin (.inl rfl) ?_)); simp [resD, oneOrTup, Tryd.results46, hm, hr, hne, hne2, hmr, Ne.symm hmr, under_tOb, letsU]; refine FinOK.cut [(m, mOb lets r g), (r, tOb T)] (nx) (by simp [getK_cons, getK, getK_append, getK_del, Ob.under, D.under, under_rowsD, under_entD, hm, hr, hne, hne2, hmr, Ne.symm hmr, under_tOb, letsU] <;> omega) (by simp [D.under]) (by simp [hn]) ?_; try simp)
theorem value_or {lets : List Let} {r : Nat} {g : GM} {m n : Nat} {e x y : Exp} (hmr : m ≠ r) (h0 : e.op = 11) (he : e.args = [x, y]) (hVx : ValOK lets r g m n x) (hTx : TMok lets.length (valL lets (gF g) n x)) (hVy : ValOK lets r g m n y) (hTy : TMok lets.length (valL lets (gF g) n y)) : ValOK lets r g m n e := by
  intro t nx hm hr ht
  have hne := nef hm
  have hne2 := nef hr
  unfold eagg
  have hx := arg_ret hVx e 0 (by rw [he]; rfl) hmr nx hm hr t
  have hxok := hTx t ht
  rcases hvx : valL lets (gF g) n x t with ⟨er | a, t1⟩
  · obtain ⟨T, rfl⟩ : ∃ T, T = t1 := ⟨_, rfl⟩
    rw [valL_err (by omega) (by omega) he hvx]
    simp only [hvx, outV] at hx ⊢
    (refine RetX.of_bodyW Tryd.func46 rfl (by simp) fun Γ hn hpan => ?_); simp only [entry, List.zipIdx_cons, List.zipIdx_nil, List.map_cons, List.map_nil, Nat.zero_add, Tryd.ntmps46]
    repeat' (first
    | (refine H_cons ?_; simp [hne, hne2, hmr, Ne.symm hmr, h0, Nat.add_assoc, del])
    | (refine H_nil ?_; simp [hne, hne2, hmr, Ne.symm hmr, h0, Nat.add_assoc, del])
    | (refine V_sseq ?_; simp [hne, hne2, hmr, Ne.symm hmr, h0, Nat.add_assoc, del])
    | (refine V_scond ?_; simp [hne, hne2, hmr, Ne.symm hmr, h0, Nat.add_assoc, del])
    | (refine V_sblock ?_; simp [hne, hne2, hmr, Ne.symm hmr, h0, Nat.add_assoc, del])
    | (refine CallP.panL (hx _ (by first | omega | (simp; done) | (simp; omega) | fail) ht) (by first | (simp [hne, hne2, hmr, Ne.symm hmr, h0, Nat.add_assoc, del, getK_cons, getK, getK_append, getK_del, getK_setOb, applyW, del]; done) | fail) (by rfl) (by first | assumption | (simp; done) | fail) (by rfl) (by simp) ?_; refine ⟨_, Wk.refl _, ?_⟩; (try simp [hne, hne2, hmr, Ne.symm hmr, h0, Nat.add_assoc, del, delL, del]))
    | fail)
    (refine hpan _ _ ⟨{ n := _, env := [], obs := [(m, mOb lets r g), (r, tOb T)], next := nx }, (Wk.cut rfl (by simp [hn]) (by simp [wkO, getK_cons, getK, getK_append, getK_del, Ob.under, D.under, under_rowsD, under_entD, hm, hr, hne, hne2, hmr, Ne.symm hmr, under_tOb, letsU, getK_append, getK_del, getK_cons, getK] <;> (try omega)) (by simp [wkU, keepE, getK_cons, getK, D.under, hm, hr, hne, hne2, hmr, Ne.symm hmr, under_tOb, letsU, getK_append, getK_del, getK_cons, getK] <;> (try omega)) (by simp [wkE, keepE, getK_cons, getK, hm, hr, hne, hne2, hmr, Ne.symm hmr, under_tOb, letsU, getK_append, getK_del, getK_cons, getK] <;> (try omega))), (by simp [hn] <;> (try omega)), ?_⟩; try simp)
  · rw [hvx] at hxok
    simp only [hvx, outV] at hx
    have hxok1 := hxok.1
    simp only at hxok1
    have hy := arg_ret hVy e 1 (by rw [he]; rfl) hmr nx hm hr t1
    have hyok := hTy t1 hxok1
    by_cases ha : a = 0
    · subst ha
      rcases hvy : valL lets (gF g) n y t1 with ⟨er | b, T⟩
      · rw [valL_orE h0 he hvx hvy]
        simp only [hvy, outV] at hy ⊢
        (refine RetX.of_bodyW Tryd.func46 rfl (by simp) fun Γ hn hpan => ?_); simp only [entry, List.zipIdx_cons, List.zipIdx_nil, List.map_cons, List.map_nil, Nat.zero_add, Tryd.ntmps46]
        repeat' (first
    | (refine H_cons ?_; simp [hne, hne2, hmr, Ne.symm hmr, h0, Nat.add_assoc, del])
    | (refine H_nil ?_; simp [hne, hne2, hmr, Ne.symm hmr, h0, Nat.add_assoc, del])
    | (refine V_sseq ?_; simp [hne, hne2, hmr, Ne.symm hmr, h0, Nat.add_assoc, del])
    | (refine V_scond ?_; simp [hne, hne2, hmr, Ne.symm hmr, h0, Nat.add_assoc, del])
    | (refine V_sblock ?_; simp [hne, hne2, hmr, Ne.symm hmr, h0, Nat.add_assoc, del])
    | (refine CallP.okL (hx _ (by first | omega | (simp; done) | (simp; omega) | fail) ht) (by first | (simp [hne, hne2, hmr, Ne.symm hmr, h0, Nat.add_assoc, del, getK_cons, getK, getK_append, getK_del, getK_setOb, applyW, del]; done) | fail) (by rfl) (by first | assumption | (simp; done) | fail) (by rfl) (by simp) ?_; (try simp [hne, hne2, hmr, Ne.symm hmr, h0, Nat.add_assoc, del, delL, del]))
    | (refine CallP.panL (hy _ (by first | omega | (simp; done) | (simp; omega) | fail) hxok1) (by first | (simp [hne, hne2, hmr, Ne.symm hmr, h0, Nat.add_assoc, del, getK_cons, getK, getK_append, getK_del, getK_setOb, applyW, del]; done) | fail) (by rfl) (by first | assumption | (simp; done) | fail) (by rfl) (by simp) ?_; refine ⟨_, Wk.refl _, ?_⟩; (try simp [hne, hne2, hmr, Ne.symm hmr, h0, Nat.add_assoc, del, delL, del]))
    | fail)
        (refine hpan _ _ ⟨{ n := _, env := [], obs := [(m, mOb lets r g), (r, tOb T)], next := nx }, (Wk.cut rfl (by simp [hn]) (by simp [wkO, getK_cons, getK, getK_append, getK_del, Ob.under, D.under, under_rowsD, under_entD, hm, hr, hne, hne2, hmr, Ne.symm hmr, under_tOb, letsU, getK_append, getK_del, getK_cons, getK] <;> (try omega)) (by simp [wkU, keepE, getK_cons, getK, D.under, hm, hr, hne, hne2, hmr, Ne.symm hmr, under_tOb, letsU, getK_append, getK_del, getK_cons, getK] <;> (try omega)) (by simp [wkE, keepE, getK_cons, getK, hm, hr, hne, hne2, hmr, Ne.symm hmr, under_tOb, letsU, getK_append, getK_del, getK_cons, getK] <;> (try omega))), (by simp [hn] <;> (try omega)), ?_⟩; try simp)
      · rw [valL_or h0 he hvx hvy]
        simp only [hvy, outV] at hy ⊢
        have htr := truth_fun (decide (b ≠ 0))
        by_cases hb : b = 0
        · simp only [hb, ne_eq, not_true_eq_false, decide_false] at htr hy ⊢
          (refine RetX.of_bodyW Tryd.func46 rfl (by simp) fun Γ hn hpan => ?_); simp only [entry, List.zipIdx_cons, List.zipIdx_nil, List.map_cons, List.map_nil, Nat.zero_add, Tryd.ntmps46]
          repeat' (first
    | (refine H_cons ?_; simp [hne, hne2, hmr, Ne.symm hmr, h0, Nat.add_assoc, del, hb])
    | (refine H_nil ?_; simp [hne, hne2, hmr, Ne.symm hmr, h0, Nat.add_assoc, del, hb])
    | (refine V_sseq ?_; simp [hne, hne2, hmr, Ne.symm hmr, h0, Nat.add_assoc, del, hb])
    | (refine V_scond ?_; simp [hne, hne2, hmr, Ne.symm hmr, h0, Nat.add_assoc, del, hb])
    | (refine V_sblock ?_; simp [hne, hne2, hmr, Ne.symm hmr, h0, Nat.add_assoc, del, hb])
    | (refine V_ret ?_; simp only [RunK])
    | (refine CallP.fun_ (htr) (by first | rfl | fail) (by first | assumption | (simp; done) | fail) (by first | (simp [hne, hne2, hmr, Ne.symm hmr, h0, Nat.add_assoc, del, hb]; done) | (simp [hne, hne2, hmr, Ne.symm hmr, h0, Nat.add_assoc, del, hb]; rfl) | fail) (by first | (simp; done) | fail) (fun d hd => ?_); subst hd; (try simp [hne, hne2, hmr, Ne.symm hmr, h0, Nat.add_assoc, del, hb]))
    | (refine CallP.okL (hx _ (by first | omega | (simp; done) | (simp; omega) | fail) ht) (by first | (simp [hne, hne2, hmr, Ne.symm hmr, h0, Nat.add_assoc, del, hb, getK_cons, getK, getK_append, getK_del, getK_setOb, applyW, del]; done) | fail) (by rfl) (by first | assumption | (simp; done) | fail) (by rfl) (by simp) ?_; (try simp [hne, hne2, hmr, Ne.symm hmr, h0, Nat.add_assoc, del, hb, delL, del]))
    | (refine CallP.okL (hy _ (by first | omega | (simp; done) | (simp; omega) | fail) hxok1) (by first | (simp [hne, hne2, hmr, Ne.symm hmr, h0, Nat.add_assoc, del, hb, getK_cons, getK, getK_append, getK_del, getK_setOb, applyW, del]; done) | fail) (by rfl) (by first | assumption | (simp; done) | fail) (by rfl) (by simp) ?_; (try simp [hne, hne2, hmr, Ne.symm hmr, h0, Nat.add_assoc, del, hb, delL, del]))
    | fail)
          (refine EndW.here ?_; (first | (refine EndOK.fin (.inr rfl) ?_) | (refine EndOK.fin (.inl rfl) ?_)); simp [resD, oneOrTup, Tryd.results46, hm, hr, hne, hne2, hmr, Ne.symm hmr, under_tOb, letsU]; refine FinOK.cut [(m, mOb lets r g), (r, tOb T)] (nx) (by simp [getK_cons, getK, getK_append, getK_del, Ob.under, D.under, under_rowsD, under_entD, hm, hr, hne, hne2, hmr, Ne.symm hmr, under_tOb, letsU] <;> omega) (by simp [D.under]) (by simp [hn]) ?_; try simp)
        · simp only [hb, ne_eq, not_false_eq_true, decide_true] at htr ⊢
          (refine RetX.of_bodyW Tryd.func46 rfl (by simp) fun Γ hn hpan => ?_); simp only [entry, List.zipIdx_cons, List.zipIdx_nil, List.map_cons, List.map_nil, Nat.zero_add, Tryd.ntmps46]
          repeat' (first
    | (refine H_cons ?_; simp [hne, hne2, hmr, Ne.symm hmr, h0, Nat.add_assoc, del, hb])
    | (refine H_nil ?_; simp [hne, hne2, hmr, Ne.symm hmr, h0, Nat.add_assoc, del, hb])
    | (refine V_sseq ?_; simp [hne, hne2, hmr, Ne.symm hmr, h0, Nat.add_assoc, del, hb])
    | (refine V_scond ?_; simp [hne, hne2, hmr, Ne.symm hmr, h0, Nat.add_assoc, del, hb])
    | (refine V_sblock ?_; simp [hne, hne2, hmr, Ne.symm hmr, h0, Nat.add_assoc, del, hb])
    | (refine V_ret ?_; simp only [RunK])
    | (refine CallP.fun_ (htr) (by first | rfl | fail) (by first | assumption | (simp; done) | fail) (by first | (simp [hne, hne2, hmr, Ne.symm hmr, h0, Nat.add_assoc, del, hb]; done) | (simp [hne, hne2, hmr, Ne.symm hmr, h0, Nat.add_assoc, del, hb]; rfl) | fail) (by first | (simp; done) | fail) (fun d hd => ?_); subst hd; (try simp [hne, hne2, hmr, Ne.symm hmr, h0, Nat.add_assoc, del, hb]))
    | (refine CallP.okL (hx _ (by first | omega | (simp; done) | (simp; omega) | fail) ht) (by first | (simp [hne, hne2, hmr, Ne.symm hmr, h0, Nat.add_assoc, del, hb, getK_cons, getK, getK_append, getK_del, getK_setOb, applyW, del]; done) | fail) (by rfl) (by first | assumption | (simp; done) | fail) (by rfl) (by simp) ?_; (try simp [hne, hne2, hmr, Ne.symm hmr, h0, Nat.add_assoc, del, hb, delL, del]))
    | (refine CallP.okL (hy _ (by first | omega | (simp; done) | (simp; omega) | fail) hxok1) (by first | (simp [hne, hne2, hmr, Ne.symm hmr, h0, Nat.add_assoc, del, hb, getK_cons, getK, getK_append, getK_del, getK_setOb, applyW, del]; done) | fail) (by rfl) (by first | assumption | (simp; done) | fail) (by rfl) (by simp) ?_; (try simp [hne, hne2, hmr, Ne.symm hmr, h0, Nat.add_assoc, del, hb, delL, del]))
    | fail)
          (refine EndW.here ?_; (first | (refine EndOK.fin (.inr rfl) ?_) | (refine EndOK.fin (.inl rfl) ?_)); simp [resD, oneOrTup, Tryd.results46, hm, hr, hne, hne2, hmr, Ne.symm hmr, under_tOb, letsU]; refine FinOK.cut [(m, mOb lets r g), (r, tOb T)] (nx) (by simp [getK_cons, getK, getK_append, getK_del, Ob.under, D.under, under_rowsD, under_entD, hm, hr, hne, hne2, hmr, Ne.symm hmr, under_tOb, letsU] <;> omega) (by simp [D.under]) (by simp [hn]) ?_; try simp)
    · skip
      rw [valL_or1 h0 he hvx ha]
      simp only [outV]
      obtain ⟨T, rfl⟩ : ∃ T, T = t1 := ⟨_, rfl⟩
      have htr := truth_fun true
      simp only [truthX, if_true] at htr
      (refine RetX.of_bodyW Tryd.func46 rfl (by simp) fun Γ hn hpan => ?_); simp only [entry, List.zipIdx_cons, List.zipIdx_nil, List.map_cons, List.map_nil, Nat.zero_add, Tryd.ntmps46]
      repeat' (first
    | (refine H_cons ?_; simp [hne, hne2, hmr, Ne.symm hmr, h0, Nat.add_assoc, del, ha])
    | (refine H_nil ?_; simp [hne, hne2, hmr, Ne.symm hmr, h0, Nat.add_assoc, del, ha])
    | (refine V_sseq ?_; simp [hne, hne2, hmr, Ne.symm hmr, h0, Nat.add_assoc, del, ha])
    | (refine V_scond ?_; simp [hne, hne2, hmr, Ne.symm hmr, h0, Nat.add_assoc, del, ha])
    | (refine V_sblock ?_; simp [hne, hne2, hmr, Ne.symm hmr, h0, Nat.add_assoc, del, ha])
    | (refine V_ret ?_; simp only [RunK])
    | (refine CallP.fun_ (htr) (by first | rfl | fail) (by first | assumption | (simp; done) | fail) (by first | (simp [hne, hne2, hmr, Ne.symm hmr, h0, Nat.add_assoc, del, ha]; done) | (simp [hne, hne2, hmr, Ne.symm hmr, h0, Nat.add_assoc, del, ha]; rfl) | fail) (by first | (simp; done) | fail) (fun d hd => ?_); subst hd; (try simp [hne, hne2, hmr, Ne.symm hmr, h0, Nat.add_assoc, del, ha]))
    | (refine CallP.okL (hx _ (by first | omega | (simp; done) | (simp; omega) | fail) ht) (by first | (simp [hne, hne2, hmr, Ne.symm hmr, h0, Nat.add_assoc, del, ha, getK_cons, getK, getK_append, getK_del, getK_setOb, applyW, del]; done) | fail) (by rfl) (by first | assumption | (simp; done) | fail) (by rfl) (by simp) ?_; (try simp [hne, hne2, hmr, Ne.symm hmr, h0, Nat.add_assoc, del, ha, delL, del]))
    | fail)
      (refine EndW.here ?_; (first | (refine EndOK.fin (.inr rfl) ?_) | (refine EndOK.fin (.inl rfl) ?_)); simp [resD, oneOrTup, Tryd.results46, hm, hr, hne, hne2, hmr, Ne.symm hmr, under_tOb, letsU]; refine FinOK.cut [(m, mOb lets r g), (r, tOb T)] (nx) (by simp [getK_cons, getK, getK_append, getK_del, Ob.under, D.under, under_rowsD, under_entD, hm, hr, hne, hne2, hmr, Ne.symm hmr, under_tOb, letsU] <;> omega) (by simp [D.under]) (by simp [hn]) ?_; try simp)
theorem value_not {lets : List Let} {r : Nat} {g : GM} {m n : Nat} {e x : Exp} (hmr : m ≠ r) (h0 : e.op = 12) (he : e.args = [x]) (hVx : ValOK lets r g m n x) (hTx : TMok lets.length (valL lets (gF g) n x)) : ValOK lets r g m n e := by
  intro t nx hm hr ht
  have hne := nef hm
  have hne2 := nef hr
  unfold eagg
  have hx := arg_ret hVx e 0 (by rw [he]; rfl) hmr nx hm hr t
  have hxok := hTx t ht
  rcases hvx : valL lets (gF g) n x t with ⟨er | a, t1⟩
  · obtain ⟨T, rfl⟩ : ∃ T, T = t1 := ⟨_, rfl⟩
    rw [valL_err (by omega) (by omega) he hvx]
    simp only [hvx, outV] at hx ⊢
    (refine RetX.of_bodyW Tryd.func46 rfl (by simp) fun Γ hn hpan => ?_); simp only [entry, List.zipIdx_cons, List.zipIdx_nil, List.map_cons, List.map_nil, Nat.zero_add, Tryd.ntmps46]
    repeat' (first
    | (refine H_cons ?_; simp [hne, hne2, hmr, Ne.symm hmr, h0, Nat.add_assoc, del])
    | (refine H_nil ?_; simp [hne, hne2, hmr, Ne.symm hmr, h0, Nat.add_assoc, del])
    | (refine V_sseq ?_; simp [hne, hne2, hmr, Ne.symm hmr, h0, Nat.add_assoc, del])
    | (refine V_scond ?_; simp [hne, hne2, hmr, Ne.symm hmr, h0, Nat.add_assoc, del])
    | (refine V_sblock ?_; simp [hne, hne2, hmr, Ne.symm hmr, h0, Nat.add_assoc, del])
    | (refine CallP.panL (hx _ (by first | omega | (simp; done) | (simp; omega) | fail) ht) (by first | (simp [hne, hne2, hmr, Ne.symm hmr, h0, Nat.add_assoc, del, getK_cons, getK, getK_append, getK_del, getK_setOb, applyW, del]; done) | fail) (by rfl) (by first | assumption | (simp; done) | fail) (by rfl) (by simp) ?_; refine ⟨_, Wk.refl _, ?_⟩; (try simp [hne, hne2, hmr, Ne.symm hmr, h0, Nat.add_assoc, del, delL, del]))
    | fail)
    (refine hpan _ _ ⟨{ n := _, env := [], obs := [(m, mOb lets r g), (r, tOb T)], next := nx }, (Wk.cut rfl (by simp [hn]) (by simp [wkO, getK_cons, getK, getK_append, getK_del, Ob.under, D.under, under_rowsD, under_entD, hm, hr, hne, hne2, hmr, Ne.symm hmr, under_tOb, letsU, getK_append, getK_del, getK_cons, getK] <;> (try omega)) (by simp [wkU, keepE, getK_cons, getK, D.under, hm, hr, hne, hne2, hmr, Ne.symm hmr, under_tOb, letsU, getK_append, getK_del, getK_cons, getK] <;> (try omega)) (by simp [wkE, keepE, getK_cons, getK, hm, hr, hne, hne2, hmr, Ne.symm hmr, under_tOb, letsU, getK_append, getK_del, getK_cons, getK] <;> (try omega))), (by simp [hn] <;> (try omega)), ?_⟩; try simp)
  · obtain ⟨T, rfl⟩ : ∃ T, T = t1 := ⟨_, rfl⟩
    rw [valL_not h0 he hvx]
    simp only [hvx, outV] at hx ⊢
    have htr := truth_fun (decide (a = 0))
    by_cases ha : a = 0
    · simp only [ha, decide_true] at htr hx ⊢
      (refine RetX.of_bodyW Tryd.func46 rfl (by simp) fun Γ hn hpan => ?_); simp only [entry, List.zipIdx_cons, List.zipIdx_nil, List.map_cons, List.map_nil, Nat.zero_add, Tryd.ntmps46]
      repeat' (first
    | (refine H_cons ?_; simp [hne, hne2, hmr, Ne.symm hmr, h0, Nat.add_assoc, del])
    | (refine H_nil ?_; simp [hne, hne2, hmr, Ne.symm hmr, h0, Nat.add_assoc, del])
    | (refine V_sseq ?_; simp [hne, hne2, hmr, Ne.symm hmr, h0, Nat.add_assoc, del])
    | (refine V_scond ?_; simp [hne, hne2, hmr, Ne.symm hmr, h0, Nat.add_assoc, del])
    | (refine V_sblock ?_; simp [hne, hne2, hmr, Ne.symm hmr, h0, Nat.add_assoc, del])
    | (refine V_ret ?_; simp only [RunK])
    | (refine CallP.fun_ (htr) (by first | rfl | fail) (by first | assumption | (simp; done) | fail) (by first | (simp [hne, hne2, hmr, Ne.symm hmr, h0, Nat.add_assoc, del]; done) | (simp [hne, hne2, hmr, Ne.symm hmr, h0, Nat.add_assoc, del]; rfl) | fail) (by first | (simp; done) | fail) (fun d hd => ?_); subst hd; (try simp [hne, hne2, hmr, Ne.symm hmr, h0, Nat.add_assoc, del]))
    | (refine CallP.okL (hx _ (by first | omega | (simp; done) | (simp; omega) | fail) ht) (by first | (simp [hne, hne2, hmr, Ne.symm hmr, h0, Nat.add_assoc, del, getK_cons, getK, getK_append, getK_del, getK_setOb, applyW, del]; done) | fail) (by rfl) (by first | assumption | (simp; done) | fail) (by rfl) (by simp) ?_; (try simp [hne, hne2, hmr, Ne.symm hmr, h0, Nat.add_assoc, del, delL, del]))
    | fail)
      (refine EndW.here ?_; (first | (refine EndOK.fin (.inr rfl) ?_) | (refine EndOK.fin (.inl rfl) ?_)); simp [resD, oneOrTup, Tryd.results46, hm, hr, hne, hne2, hmr, Ne.symm hmr, under_tOb, letsU]; refine FinOK.cut [(m, mOb lets r g), (r, tOb T)] (nx) (by simp [getK_cons, getK, getK_append, getK_del, Ob.under, D.under, under_rowsD, under_entD, hm, hr, hne, hne2, hmr, Ne.symm hmr, under_tOb, letsU] <;> omega) (by simp [D.under]) (by simp [hn]) ?_; try simp)
    · simp only [ha, decide_false] at htr ⊢
      (refine RetX.of_bodyW Tryd.func46 rfl (by simp) fun Γ hn hpan => ?_); simp only [entry, List.zipIdx_cons, List.zipIdx_nil, List.map_cons, List.map_nil, Nat.zero_add, Tryd.ntmps46]
      repeat' (first
    | (refine H_cons ?_; simp [hne, hne2, hmr, Ne.symm hmr, h0, Nat.add_assoc, del, ha])
    | (refine H_nil ?_; simp [hne, hne2, hmr, Ne.symm hmr, h0, Nat.add_assoc, del, ha])
    | (refine V_sseq ?_; simp [hne, hne2, hmr, Ne.symm hmr, h0, Nat.add_assoc, del, ha])
    | (refine V_scond ?_; simp [hne, hne2, hmr, Ne.symm hmr, h0, Nat.add_assoc, del, ha])
    | (refine V_sblock ?_; simp [hne, hne2, hmr, Ne.symm hmr, h0, Nat.add_assoc, del, ha])
    | (refine V_ret ?_; simp only [RunK])
    | (refine CallP.fun_ (htr) (by first | rfl | fail) (by first | assumption | (simp; done) | fail) (by first | (simp [hne, hne2, hmr, Ne.symm hmr, h0, Nat.add_assoc, del, ha]; done) | (simp [hne, hne2, hmr, Ne.symm hmr, h0, Nat.add_assoc, del, ha]; rfl) | fail) (by first | (simp; done) | fail) (fun d hd => ?_); subst hd; (try simp [hne, hne2, hmr, Ne.symm hmr, h0, Nat.add_assoc, del, ha]))
    | (refine CallP.okL (hx _ (by first | omega | (simp; done) | (simp; omega) | fail) ht) (by first | (simp [hne, hne2, hmr, Ne.symm hmr, h0, Nat.add_assoc, del, ha, getK_cons, getK, getK_append, getK_del, getK_setOb, applyW, del]; done) | fail) (by rfl) (by first | assumption | (simp; done) | fail) (by rfl) (by simp) ?_; (try simp [hne, hne2, hmr, Ne.symm hmr, h0, Nat.add_assoc, del, ha, delL, del]))
    | fail)
      (refine EndW.here ?_; (first | (refine EndOK.fin (.inr rfl) ?_) | (refine EndOK.fin (.inl rfl) ?_)); simp [resD, oneOrTup, Tryd.results46, hm, hr, hne, hne2, hmr, Ne.symm hmr, under_tOb, letsU]; refine FinOK.cut [(m, mOb lets r g), (r, tOb T)] (nx) (by simp [getK_cons, getK, getK_append, getK_del, Ob.under, D.under, under_rowsD, under_entD, hm, hr, hne, hne2, hmr, Ne.symm hmr, under_tOb, letsU] <;> omega) (by simp [D.under]) (by simp [hn]) ?_; try simp)
theorem value_if {lets : List Let} {r : Nat} {g : GM} {m n : Nat} {e x y z : Exp} (hmr : m ≠ r) (h0 : e.op = 13) (he : e.args = [x, y, z]) (hVx : ValOK lets r g m n x) (hTx : TMok lets.length (valL lets (gF g) n x)) (hVy : ValOK lets r g m n y) (hTy : TMok lets.length (valL lets (gF g) n y)) (hVz : ValOK lets r g m n z) (hTz : TMok lets.length (valL lets (gF g) n z)) : ValOK lets r g m n e := by
  intro t nx hm hr ht
  have hne := nef hm
  have hne2 := nef hr
  unfold eagg
  have hx := arg_ret hVx e 0 (by rw [he]; rfl) hmr nx hm hr t
  have hxok := hTx t ht
  rcases hvx : valL lets (gF g) n x t with ⟨er | a, t1⟩
  · obtain ⟨T, rfl⟩ : ∃ T, T = t1 := ⟨_, rfl⟩
    rw [valL_err (by omega) (by omega) he hvx]
    simp only [hvx, outV] at hx ⊢
    (refine RetX.of_bodyW Tryd.func46 rfl (by simp) fun Γ hn hpan => ?_); simp only [entry, List.zipIdx_cons, List.zipIdx_nil, List.map_cons, List.map_nil, Nat.zero_add, Tryd.ntmps46]
    repeat' (first
    | (refine H_cons ?_; simp [hne, hne2, hmr, Ne.symm hmr, h0, Nat.add_assoc, del])
    | (refine H_nil ?_; simp [hne, hne2, hmr, Ne.symm hmr, h0, Nat.add_assoc, del])
    | (refine V_sseq ?_; simp [hne, hne2, hmr, Ne.symm hmr, h0, Nat.add_assoc, del])
    | (refine V_scond ?_; simp [hne, hne2, hmr, Ne.symm hmr, h0, Nat.add_assoc, del])
    | (refine V_sblock ?_; simp [hne, hne2, hmr, Ne.symm hmr, h0, Nat.add_assoc, del])
    | (refine CallP.panL (hx _ (by first | omega | (simp; done) | (simp; omega) | fail) ht) (by first | (simp [hne, hne2, hmr, Ne.symm hmr, h0, Nat.add_assoc, del, getK_cons, getK, getK_append, getK_del, getK_setOb, applyW, del]; done) | fail) (by rfl) (by first | assumption | (simp; done) | fail) (by rfl) (by simp) ?_; refine ⟨_, Wk.refl _, ?_⟩; (try simp [hne, hne2, hmr, Ne.symm hmr, h0, Nat.add_assoc, del, delL, del]))
    | fail)
    (refine hpan _ _ ⟨{ n := _, env := [], obs := [(m, mOb lets r g), (r, tOb T)], next := nx }, (Wk.cut rfl (by simp [hn]) (by simp [wkO, getK_cons, getK, getK_append, getK_del, Ob.under, D.under, under_rowsD, under_entD, hm, hr, hne, hne2, hmr, Ne.symm hmr, under_tOb, letsU, getK_append, getK_del, getK_cons, getK] <;> (try omega)) (by simp [wkU, keepE, getK_cons, getK, D.under, hm, hr, hne, hne2, hmr, Ne.symm hmr, under_tOb, letsU, getK_append, getK_del, getK_cons, getK] <;> (try omega)) (by simp [wkE, keepE, getK_cons, getK, hm, hr, hne, hne2, hmr, Ne.symm hmr, under_tOb, letsU, getK_append, getK_del, getK_cons, getK] <;> (try omega))), (by simp [hn] <;> (try omega)), ?_⟩; try simp)
  · rw [hvx] at hxok
    simp only [hvx, outV] at hx
    have hxok1 := hxok.1
    simp only at hxok1
    have hy := arg_ret hVy e 1 (by rw [he]; rfl) hmr nx hm hr t1
    have hyok := hTy t1 hxok1
    have hz := arg_ret hVz e 2 (by rw [he]; rfl) hmr nx hm hr t1
    by_cases ha : a = 0
    · subst ha
      rw [valL_if0 h0 he hvx]
      rcases hvz : valL lets (gF g) n z t1 with ⟨er | b, T⟩
      · simp only [hvz, outV] at hz ⊢
        (refine RetX.of_bodyW Tryd.func46 rfl (by simp) fun Γ hn hpan => ?_); simp only [entry, List.zipIdx_cons, List.zipIdx_nil, List.map_cons, List.map_nil, Nat.zero_add, Tryd.ntmps46]
        repeat' (first
    | (refine H_cons ?_; simp [hne, hne2, hmr, Ne.symm hmr, h0, Nat.add_assoc, del])
    | (refine H_nil ?_; simp [hne, hne2, hmr, Ne.symm hmr, h0, Nat.add_assoc, del])
    | (refine V_sseq ?_; simp [hne, hne2, hmr, Ne.symm hmr, h0, Nat.add_assoc, del])
    | (refine V_scond ?_; simp [hne, hne2, hmr, Ne.symm hmr, h0, Nat.add_assoc, del])
    | (refine V_sblock ?_; simp [hne, hne2, hmr, Ne.symm hmr, h0, Nat.add_assoc, del])
    | (refine V_skip ?_; simp only [RunK])
    | (refine CallP.okL (hx _ (by first | omega | (simp; done) | (simp; omega) | fail) ht) (by first | (simp [hne, hne2, hmr, Ne.symm hmr, h0, Nat.add_assoc, del, getK_cons, getK, getK_append, getK_del, getK_setOb, applyW, del]; done) | fail) (by rfl) (by first | assumption | (simp; done) | fail) (by rfl) (by simp) ?_; (try simp [hne, hne2, hmr, Ne.symm hmr, h0, Nat.add_assoc, del, delL, del]))
    | (refine CallP.panL (hz _ (by first | omega | (simp; done) | (simp; omega) | fail) hxok1) (by first | (simp [hne, hne2, hmr, Ne.symm hmr, h0, Nat.add_assoc, del, getK_cons, getK, getK_append, getK_del, getK_setOb, applyW, del]; done) | fail) (by rfl) (by first | assumption | (simp; done) | fail) (by rfl) (by simp) ?_; refine ⟨_, Wk.refl _, ?_⟩; (try simp [hne, hne2, hmr, Ne.symm hmr, h0, Nat.add_assoc, del, delL, del]))
    | fail)
        (refine hpan _ _ ⟨{ n := _, env := [], obs := [(m, mOb lets r g), (r, tOb T)], next := nx }, (Wk.cut rfl (by simp [hn]) (by simp [wkO, getK_cons, getK, getK_append, getK_del, Ob.under, D.under, under_rowsD, under_entD, hm, hr, hne, hne2, hmr, Ne.symm hmr, under_tOb, letsU, getK_append, getK_del, getK_cons, getK] <;> (try omega)) (by simp [wkU, keepE, getK_cons, getK, D.under, hm, hr, hne, hne2, hmr, Ne.symm hmr, under_tOb, letsU, getK_append, getK_del, getK_cons, getK] <;> (try omega)) (by simp [wkE, keepE, getK_cons, getK, hm, hr, hne, hne2, hmr, Ne.symm hmr, under_tOb, letsU, getK_append, getK_del, getK_cons, getK] <;> (try omega))), (by simp [hn] <;> (try omega)), ?_⟩; try simp)
      · simp only [hvz, outV] at hz ⊢
        (refine RetX.of_bodyW Tryd.func46 rfl (by simp) fun Γ hn hpan => ?_); simp only [entry, List.zipIdx_cons, List.zipIdx_nil, List.map_cons, List.map_nil, Nat.zero_add, Tryd.ntmps46]
        repeat' (first
    | (refine H_cons ?_; simp [hne, hne2, hmr, Ne.symm hmr, h0, Nat.add_assoc, del])
    | (refine H_nil ?_; simp [hne, hne2, hmr, Ne.symm hmr, h0, Nat.add_assoc, del])
    | (refine V_sseq ?_; simp [hne, hne2, hmr, Ne.symm hmr, h0, Nat.add_assoc, del])
    | (refine V_scond ?_; simp [hne, hne2, hmr, Ne.symm hmr, h0, Nat.add_assoc, del])
    | (refine V_sblock ?_; simp [hne, hne2, hmr, Ne.symm hmr, h0, Nat.add_assoc, del])
    | (refine V_ret ?_; simp only [RunK])
    | (refine V_skip ?_; simp only [RunK])
    | (refine CallP.okL (hx _ (by first | omega | (simp; done) | (simp; omega) | fail) ht) (by first | (simp [hne, hne2, hmr, Ne.symm hmr, h0, Nat.add_assoc, del, getK_cons, getK, getK_append, getK_del, getK_setOb, applyW, del]; done) | fail) (by rfl) (by first | assumption | (simp; done) | fail) (by rfl) (by simp) ?_; (try simp [hne, hne2, hmr, Ne.symm hmr, h0, Nat.add_assoc, del, delL, del]))
    | (refine CallP.okL (hz _ (by first | omega | (simp; done) | (simp; omega) | fail) hxok1) (by first | (simp [hne, hne2, hmr, Ne.symm hmr, h0, Nat.add_assoc, del, getK_cons, getK, getK_append, getK_del, getK_setOb, applyW, del]; done) | fail) (by rfl) (by first | assumption | (simp; done) | fail) (by rfl) (by simp) ?_; (try simp [hne, hne2, hmr, Ne.symm hmr, h0, Nat.add_assoc, del, delL, del]))
    | fail)
        (refine EndW.here ?_; (first | (refine EndOK.fin (.inr rfl) ?_) | (refine EndOK.fin (.inl rfl) ?_)); simp [resD, oneOrTup, Tryd.results46, hm, hr, hne, hne2, hmr, Ne.symm hmr, under_tOb, letsU]; refine FinOK.cut [(m, mOb lets r g), (r, tOb T)] (nx) (by simp [getK_cons, getK, getK_append, getK_del, Ob.under, D.under, under_rowsD, under_entD, hm, hr, hne, hne2, hmr, Ne.symm hmr, under_tOb, letsU] <;> omega) (by simp [D.under]) (by simp [hn]) ?_; try simp)
    · rw [valL_if1 h0 he hvx ha]
      rcases hvy : valL lets (gF g) n y t1 with ⟨er | b, T⟩
      · simp only [hvy, outV] at hy ⊢
        (refine RetX.of_bodyW Tryd.func46 rfl (by simp) fun Γ hn hpan => ?_); simp only [entry, List.zipIdx_cons, List.zipIdx_nil, List.map_cons, List.map_nil, Nat.zero_add, Tryd.ntmps46]
        repeat' (first
    | (refine H_cons ?_; simp [hne, hne2, hmr, Ne.symm hmr, h0, Nat.add_assoc, del, ha])
    | (refine H_nil ?_; simp [hne, hne2, hmr, Ne.symm hmr, h0, Nat.add_assoc, del, ha])
    | (refine V_sseq ?_; simp [hne, hne2, hmr, Ne.symm hmr, h0, Nat.add_assoc, del, ha])
    | (refine V_scond ?_; simp [hne, hne2, hmr, Ne.symm hmr, h0, Nat.add_assoc, del, ha])
    | (refine V_sblock ?_; simp [hne, hne2, hmr, Ne.symm hmr, h0, Nat.add_assoc, del, ha])
    | (refine CallP.okL (hx _ (by first | omega | (simp; done) | (simp; omega) | fail) ht) (by first | (simp [hne, hne2, hmr, Ne.symm hmr, h0, Nat.add_assoc, del, ha, getK_cons, getK, getK_append, getK_del, getK_setOb, applyW, del]; done) | fail) (by rfl) (by first | assumption | (simp; done) | fail) (by rfl) (by simp) ?_; (try simp [hne, hne2, hmr, Ne.symm hmr, h0, Nat.add_assoc, del, ha, delL, del]))
    | (refine CallP.panL (hy _ (by first | omega | (simp; done) | (simp; omega) | fail) hxok1) (by first | (simp [hne, hne2, hmr, Ne.symm hmr, h0, Nat.add_assoc, del, ha, getK_cons, getK, getK_append, getK_del, getK_setOb, applyW, del]; done) | fail) (by rfl) (by first | assumption | (simp; done) | fail) (by rfl) (by simp) ?_; refine ⟨_, Wk.refl _, ?_⟩; (try simp [hne, hne2, hmr, Ne.symm hmr, h0, Nat.add_assoc, del, ha, delL, del]))
    | fail)
        (refine hpan _ _ ⟨{ n := _, env := [], obs := [(m, mOb lets r g), (r, tOb T)], next := nx }, (Wk.cut rfl (by simp [hn]) (by simp [wkO, getK_cons, getK, getK_append, getK_del, Ob.under, D.under, under_rowsD, under_entD, hm, hr, hne, hne2, hmr, Ne.symm hmr, under_tOb, letsU, getK_append, getK_del, getK_cons, getK] <;> (try omega)) (by simp [wkU, keepE, getK_cons, getK, D.under, hm, hr, hne, hne2, hmr, Ne.symm hmr, under_tOb, letsU, getK_append, getK_del, getK_cons, getK] <;> (try omega)) (by simp [wkE, keepE, getK_cons, getK, hm, hr, hne, hne2, hmr, Ne.symm hmr, under_tOb, letsU, getK_append, getK_del, getK_cons, getK] <;> (try omega))), (by simp [hn] <;> (try omega)), ?_⟩; try simp)
      · simp only [hvy, outV] at hy ⊢
        (refine RetX.of_bodyW Tryd.func46 rfl (by simp) fun Γ hn hpan => ?_); simp only [entry, List.zipIdx_cons, List.zipIdx_nil, List.map_cons, List.map_nil, Nat.zero_add, Tryd.ntmps46]
        repeat' (first
    | (refine H_cons ?_; simp [hne, hne2, hmr, Ne.symm hmr, h0, Nat.add_assoc, del, ha])
    | (refine H_nil ?_; simp [hne, hne2, hmr, Ne.symm hmr, h0, Nat.add_assoc, del, ha])
    | (refine V_sseq ?_; simp [hne, hne2, hmr, Ne.symm hmr, h0, Nat.add_assoc, del, ha])
    | (refine V_scond ?_; simp [hne, hne2, hmr, Ne.symm hmr, h0, Nat.add_assoc, del, ha])
    | (refine V_sblock ?_; simp [hne, hne2, hmr, Ne.symm hmr, h0, Nat.add_assoc, del, ha])
    | (refine V_ret ?_; simp only [RunK])
    | (refine CallP.okL (hx _ (by first | omega | (simp; done) | (simp; omega) | fail) ht) (by first | (simp [hne, hne2, hmr, Ne.symm hmr, h0, Nat.add_assoc, del, ha, getK_cons, getK, getK_append, getK_del, getK_setOb, applyW, del]; done) | fail) (by rfl) (by first | assumption | (simp; done) | fail) (by rfl) (by simp) ?_; (try simp [hne, hne2, hmr, Ne.symm hmr, h0, Nat.add_assoc, del, ha, delL, del]))
    | (refine CallP.okL (hy _ (by first | omega | (simp; done) | (simp; omega) | fail) hxok1) (by first | (simp [hne, hne2, hmr, Ne.symm hmr, h0, Nat.add_assoc, del, ha, getK_cons, getK, getK_append, getK_del, getK_setOb, applyW, del]; done) | fail) (by rfl) (by first | assumption | (simp; done) | fail) (by rfl) (by simp) ?_; (try simp [hne, hne2, hmr, Ne.symm hmr, h0, Nat.add_assoc, del, ha, delL, del]))
    | fail)
        (refine EndW.here ?_; (first | (refine EndOK.fin (.inr rfl) ?_) | (refine EndOK.fin (.inl rfl) ?_)); simp [resD, oneOrTup, Tryd.results46, hm, hr, hne, hne2, hmr, Ne.symm hmr, under_tOb, letsU]; refine FinOK.cut [(m, mOb lets r g), (r, tOb T)] (nx) (by simp [getK_cons, getK, getK_append, getK_del, Ob.under, D.under, under_rowsD, under_entD, hm, hr, hne, hne2, hmr, Ne.symm hmr, under_tOb, letsU] <;> omega) (by simp [D.under]) (by simp [hn]) ?_; try simp)
theorem value_bin {lets : List Let} {r : Nat} {g : GM} {m n : Nat} {e x y : Exp} (hmr : m ≠ r) (hop : 2 ≤ e.op ∧ e.op ≤ 9) (hl : lets.length ≤ 20) (hnl : n ≤ lets.length) (he : e.args = [x, y]) (hVx : ValOK lets r g m n x) (hTx : TMok lets.length (valL lets (gF g) n x)) (hVy : ValOK lets r g m n y) (hTy : TMok lets.length (valL lets (gF g) n y)) : ValOK lets r g m n e := by
  intro t nx hm hr ht
  have hne := nef hm
  have hne2 := nef hr
  unfold eagg
  have c0 : ¬ e.op = 0 := by omega
  have c1 : ¬ e.op = 1 := by omega
  have c2 : ¬ e.op = 10 := by omega
  have c3 : ¬ e.op = 11 := by omega
  have c4 : ¬ e.op = 12 := by omega
  have c5 : ¬ e.op = 13 := by omega
  have hx := arg_ret hVx e 0 (by rw [he]; rfl) hmr nx hm hr t
  have hxok := hTx t ht
  rcases hvx : valL lets (gF g) n x t with ⟨er | a, t1⟩
  · obtain ⟨T, rfl⟩ : ∃ T, T = t1 := ⟨_, rfl⟩
    rw [valL_err (by omega) (by omega) he hvx]
    simp only [hvx, outV] at hx ⊢
    (refine RetX.of_bodyW Tryd.func46 rfl (by simp) fun Γ hn hpan => ?_); simp only [entry, List.zipIdx_cons, List.zipIdx_nil, List.map_cons, List.map_nil, Nat.zero_add, Tryd.ntmps46]
    repeat' (first
    | (refine HD4_panL (fun nx' h' => hx nx' (by simp at h'; omega) ht) (by first | (simp [hne, hne2, hmr, Ne.symm hmr, c0, c1, c2, c3, c4, c5, Nat.add_assoc, del, getK_cons, getK, getK_append, getK_del, getK_setOb, applyW, del]; done) | fail) (by rfl) (by first | assumption | (simp; done) | fail) (by rfl) (by simp) ?_ ?_; intro env' n' hn'; refine ⟨_, Wk.refl _, ?_⟩; (try simp [hne, hne2, hmr, Ne.symm hmr, c0, c1, c2, c3, c4, c5, Nat.add_assoc, del, delL, del]))
    | (refine HD4_skipC rfl (by simp) ?_; simp)
    | (refine HD4_val rfl ?_; simp [hne, hne2, hmr, Ne.symm hmr, c0, c1, c2, c3, c4, c5, Nat.add_assoc, del]; (fail_if_success (guard_target =ₛ False)))
    | (refine H_cons ?_; simp [hne, hne2, hmr, Ne.symm hmr, c0, c1, c2, c3, c4, c5, Nat.add_assoc, del])
    | (refine H_nil ?_; simp [hne, hne2, hmr, Ne.symm hmr, c0, c1, c2, c3, c4, c5, Nat.add_assoc, del])
    | (refine V_sseq ?_; simp [hne, hne2, hmr, Ne.symm hmr, c0, c1, c2, c3, c4, c5, Nat.add_assoc, del])
    | (refine V_scond ?_; simp [hne, hne2, hmr, Ne.symm hmr, c0, c1, c2, c3, c4, c5, Nat.add_assoc, del])
    | (refine HD4_nilS (hC _ (okP4_ren [m, r] nx (by simp <;> omega) (by simp <;> omega) (by apply Exists.intro; apply And.intro; (focus (repeat' (first | exact KF.nil | exact KL.nil | apply KF.cons | apply KL.cons 0 rfl | apply KL.cons 1 rfl | apply KL.cons 2 rfl | apply KL.cons 3 rfl | apply KL.cons 4 rfl | apply KL.cons 5 rfl | apply KL.cons 6 rfl | apply KL.cons 7 rfl | apply KL.cons 8 rfl | apply KL.cons 9 rfl))); kernel_rfl))) rfl; done)
    | (refine V_drawX rfl (by kernel_rfl) (by first | (simp [hn]; done) | (simp [hn]; omega) | fail) fun C k hC hk => ?_; simp [hne, hne2, hmr, Ne.symm hmr, c0, c1, c2, c3, c4, c5, Nat.add_assoc, del])
    | (refine V_sblock ?_; simp [hne, hne2, hmr, Ne.symm hmr, c0, c1, c2, c3, c4, c5, Nat.add_assoc, del])
    | (refine V_skip ?_; simp only [RunK])
    | fail)
    (refine hpan _ _ ⟨{ n := _, env := [], obs := [(m, mOb lets r g), (r, tOb T)], next := nx }, (Wk.cut rfl (by simp [hn]) (by simp [wkO, getK_cons, getK, getK_append, getK_del, Ob.under, D.under, under_rowsD, under_entD, hm, hr, hne, hne2, hmr, Ne.symm hmr, under_tOb, letsU, getK_append, getK_del, getK_cons, getK] <;> (try omega)) (by simp [wkU, keepE, getK_cons, getK, D.under, hm, hr, hne, hne2, hmr, Ne.symm hmr, under_tOb, letsU, getK_append, getK_del, getK_cons, getK] <;> (try omega)) (by simp [wkE, keepE, getK_cons, getK, hm, hr, hne, hne2, hmr, Ne.symm hmr, under_tOb, letsU, getK_append, getK_del, getK_cons, getK] <;> (try omega))), (by simp [hn] <;> (try omega)), ?_⟩; try simp)
  · rw [hvx] at hxok
    simp only [hvx, outV] at hx
    have hxok1 := hxok.1
    simp only at hxok1
    have hy := arg_ret hVy e 1 (by rw [he]; rfl) hmr nx hm hr t1
    have hyok := hTy t1 hxok1
    have hx1 := fun nx' h1 h2 h3 => arg_ret1 (v := a) (t1 := t1) hVx e 0 (by rw [he]; rfl) hmr nx hm hr t nx' h1 h2 h3
    have hy1 := fun v T nx' h1 h2 h3 => arg_ret1 (v := v) (t1 := T) hVy e 1 (by rw [he]; rfl) hmr nx hm hr t1 nx' h1 h2 h3
    rcases hvy : valL lets (gF g) n y t1 with ⟨er | b, T⟩
    · rw [valL_binE hop he hvx hvy]
      simp only [hvy, outV] at hy ⊢
      (refine RetX.of_bodyW Tryd.func46 rfl (by simp) fun Γ hn hpan => ?_); simp only [entry, List.zipIdx_cons, List.zipIdx_nil, List.map_cons, List.map_nil, Nat.zero_add, Tryd.ntmps46]
      repeat' (first
    | (refine HD4_okF (fun nx' h' => hx1 nx' (by simp at h'; omega) ht hvx) (by first | (simp [hne, hne2, hmr, Ne.symm hmr, c0, c1, c2, c3, c4, c5, Nat.add_assoc, del, getK_cons, getK, getK_append, getK_del, getK_setOb, applyW, del]; done) | fail) (by first | (simp [hne, hne2, hmr, Ne.symm hmr, c0, c1, c2, c3, c4, c5, Nat.add_assoc, del]; done) | fail) (by rfl) (by first | assumption | (simp; done) | fail) (by rfl) (by first | (simp [hne, hne2, hmr, Ne.symm hmr, c0, c1, c2, c3, c4, c5, Nat.add_assoc, del, D.under, Ob.under, under_rowsD, under_entD]; done) | (simp [hne, hne2, hmr, Ne.symm hmr, c0, c1, c2, c3, c4, c5, Nat.add_assoc, del, D.under, Ob.under, under_rowsD, under_entD]; omega) | fail) (by simp) ?_; (try simp [hne, hne2, hmr, Ne.symm hmr, c0, c1, c2, c3, c4, c5, Nat.add_assoc, del]))
    | (refine HD4_panL (fun nx' h' => hy nx' (by simp at h'; omega) hxok1) (by first | (simp [hne, hne2, hmr, Ne.symm hmr, c0, c1, c2, c3, c4, c5, Nat.add_assoc, del, getK_cons, getK, getK_append, getK_del, getK_setOb, applyW, del]; done) | fail) (by rfl) (by first | assumption | (simp; done) | fail) (by rfl) (by simp) ?_ ?_; intro env' n' hn'; refine ⟨_, Wk.refl _, ?_⟩; (try simp [hne, hne2, hmr, Ne.symm hmr, c0, c1, c2, c3, c4, c5, Nat.add_assoc, del, delL, del]))
    | (refine HD4_skipC rfl (by simp) ?_; simp)
    | (refine HD4_val rfl ?_; simp [hne, hne2, hmr, Ne.symm hmr, c0, c1, c2, c3, c4, c5, Nat.add_assoc, del]; (fail_if_success (guard_target =ₛ False)))
    | (refine H_cons ?_; simp [hne, hne2, hmr, Ne.symm hmr, c0, c1, c2, c3, c4, c5, Nat.add_assoc, del])
    | (refine H_nil ?_; simp [hne, hne2, hmr, Ne.symm hmr, c0, c1, c2, c3, c4, c5, Nat.add_assoc, del])
    | (refine V_sseq ?_; simp [hne, hne2, hmr, Ne.symm hmr, c0, c1, c2, c3, c4, c5, Nat.add_assoc, del])
    | (refine V_scond ?_; simp [hne, hne2, hmr, Ne.symm hmr, c0, c1, c2, c3, c4, c5, Nat.add_assoc, del])
    | (refine HD4_nilS (hC _ (okP4_ren [m, r] nx (by simp <;> omega) (by simp <;> omega) (by apply Exists.intro; apply And.intro; (focus (repeat' (first | exact KF.nil | exact KL.nil | apply KF.cons | apply KL.cons 0 rfl | apply KL.cons 1 rfl | apply KL.cons 2 rfl | apply KL.cons 3 rfl | apply KL.cons 4 rfl | apply KL.cons 5 rfl | apply KL.cons 6 rfl | apply KL.cons 7 rfl | apply KL.cons 8 rfl | apply KL.cons 9 rfl))); kernel_rfl))) rfl; done)
    | (refine V_drawX rfl (by kernel_rfl) (by first | (simp [hn]; done) | (simp [hn]; omega) | fail) fun C k hC hk => ?_; simp [hne, hne2, hmr, Ne.symm hmr, c0, c1, c2, c3, c4, c5, Nat.add_assoc, del])
    | (refine V_sblock ?_; simp [hne, hne2, hmr, Ne.symm hmr, c0, c1, c2, c3, c4, c5, Nat.add_assoc, del])
    | (refine V_skip ?_; simp only [RunK])
    | fail)
      (refine hpan _ _ ⟨{ n := _, env := [], obs := [(m, mOb lets r g), (r, tOb T)], next := nx }, (Wk.cut rfl (by simp [hn]) (by simp [wkO, getK_cons, getK, getK_append, getK_del, Ob.under, D.under, under_rowsD, under_entD, hm, hr, hne, hne2, hmr, Ne.symm hmr, under_tOb, letsU, getK_append, getK_del, getK_cons, getK] <;> (try omega)) (by simp [wkU, keepE, getK_cons, getK, D.under, hm, hr, hne, hne2, hmr, Ne.symm hmr, under_tOb, letsU, getK_append, getK_del, getK_cons, getK] <;> (try omega)) (by simp [wkE, keepE, getK_cons, getK, hm, hr, hne, hne2, hmr, Ne.symm hmr, under_tOb, letsU, getK_append, getK_del, getK_cons, getK] <;> (try omega))), (by simp [hn] <;> (try omega)), ?_⟩; try simp)
    · rw [valL_bin hop he hvx hvy]
      rw [hvy] at hyok
      have hb := fun nx' (h : nx ≤ nx') => binary_ret lets r g m nx' (by omega) (by omega) e x y a b n hnl hl he (hxok.2.1 a rfl) (hyok.2.1 b rfl) hop
      simp only [hvy, outV] at hy ⊢
      unfold eagg at hb
      cases hbx : binX e.op (shareP (lets.take n) x || shareP (lets.take n) y) a b with
      | error er =>
        simp only [hbx, outV] at hb ⊢
        (refine RetX.of_bodyW Tryd.func46 rfl (by simp) fun Γ hn hpan => ?_); simp only [entry, List.zipIdx_cons, List.zipIdx_nil, List.map_cons, List.map_nil, Nat.zero_add, Tryd.ntmps46]
        repeat' (first
    | (refine HD4_okF (fun nx' h' => hx1 nx' (by simp at h'; omega) ht hvx) (by first | (simp [hne, hne2, hmr, Ne.symm hmr, c0, c1, c2, c3, c4, c5, Nat.add_assoc, del, getK_cons, getK, getK_append, getK_del, getK_setOb, applyW, del]; done) | fail) (by first | (simp [hne, hne2, hmr, Ne.symm hmr, c0, c1, c2, c3, c4, c5, Nat.add_assoc, del]; done) | fail) (by rfl) (by first | assumption | (simp; done) | fail) (by rfl) (by first | (simp [hne, hne2, hmr, Ne.symm hmr, c0, c1, c2, c3, c4, c5, Nat.add_assoc, del, D.under, Ob.under, under_rowsD, under_entD]; done) | (simp [hne, hne2, hmr, Ne.symm hmr, c0, c1, c2, c3, c4, c5, Nat.add_assoc, del, D.under, Ob.under, under_rowsD, under_entD]; omega) | fail) (by simp) ?_; (try simp [hne, hne2, hmr, Ne.symm hmr, c0, c1, c2, c3, c4, c5, Nat.add_assoc, del]))
    | (refine HD4_okF (fun nx' h' => hy1 _ _ nx' (by simp at h'; omega) hxok1 hvy) (by first | (simp [hne, hne2, hmr, Ne.symm hmr, c0, c1, c2, c3, c4, c5, Nat.add_assoc, del, getK_cons, getK, getK_append, getK_del, getK_setOb, applyW, del]; done) | fail) (by first | (simp [hne, hne2, hmr, Ne.symm hmr, c0, c1, c2, c3, c4, c5, Nat.add_assoc, del]; done) | fail) (by rfl) (by first | assumption | (simp; done) | fail) (by rfl) (by first | (simp [hne, hne2, hmr, Ne.symm hmr, c0, c1, c2, c3, c4, c5, Nat.add_assoc, del, D.under, Ob.under, under_rowsD, under_entD]; done) | (simp [hne, hne2, hmr, Ne.symm hmr, c0, c1, c2, c3, c4, c5, Nat.add_assoc, del, D.under, Ob.under, under_rowsD, under_entD]; omega) | fail) (by simp) ?_; (try simp [hne, hne2, hmr, Ne.symm hmr, c0, c1, c2, c3, c4, c5, Nat.add_assoc, del]))
    | (refine HD4_panL (fun nx' h' => hb nx' (by simp at h'; omega)) (by first | (simp [hne, hne2, hmr, Ne.symm hmr, c0, c1, c2, c3, c4, c5, Nat.add_assoc, del, getK_cons, getK, getK_append, getK_del, getK_setOb, applyW, del]; done) | fail) (by rfl) (by first | assumption | (simp; done) | fail) (by rfl) (by simp) ?_ ?_; intro env' n' hn'; refine ⟨_, Wk.refl _, ?_⟩; (try simp [hne, hne2, hmr, Ne.symm hmr, c0, c1, c2, c3, c4, c5, Nat.add_assoc, del, delL, del]))
    | (refine HD4_val rfl ?_; simp [hne, hne2, hmr, Ne.symm hmr, c0, c1, c2, c3, c4, c5, Nat.add_assoc, del]; (fail_if_success (guard_target =ₛ False)))
    | (refine H_cons ?_; simp [hne, hne2, hmr, Ne.symm hmr, c0, c1, c2, c3, c4, c5, Nat.add_assoc, del])
    | (refine H_nil ?_; simp [hne, hne2, hmr, Ne.symm hmr, c0, c1, c2, c3, c4, c5, Nat.add_assoc, del])
    | (refine V_sseq ?_; simp [hne, hne2, hmr, Ne.symm hmr, c0, c1, c2, c3, c4, c5, Nat.add_assoc, del])
    | (refine V_scond ?_; simp [hne, hne2, hmr, Ne.symm hmr, c0, c1, c2, c3, c4, c5, Nat.add_assoc, del])
    | (refine HD4_nilS (hC _ (okP4_ren [m, r] nx (by simp <;> omega) (by simp <;> omega) (by apply Exists.intro; apply And.intro; (focus (repeat' (first | exact KF.nil | exact KL.nil | apply KF.cons | apply KL.cons 0 rfl | apply KL.cons 1 rfl | apply KL.cons 2 rfl | apply KL.cons 3 rfl | apply KL.cons 4 rfl | apply KL.cons 5 rfl | apply KL.cons 6 rfl | apply KL.cons 7 rfl | apply KL.cons 8 rfl | apply KL.cons 9 rfl))); kernel_rfl))) rfl; done)
    | (refine V_drawX rfl (by kernel_rfl) (by first | (simp [hn]; done) | (simp [hn]; omega) | fail) fun C k hC hk => ?_; simp [hne, hne2, hmr, Ne.symm hmr, c0, c1, c2, c3, c4, c5, Nat.add_assoc, del])
    | (refine V_sblock ?_; simp [hne, hne2, hmr, Ne.symm hmr, c0, c1, c2, c3, c4, c5, Nat.add_assoc, del])
    | (refine V_skip ?_; simp only [RunK])
    | fail)
        (refine hpan _ _ ⟨{ n := _, env := [], obs := [(m, mOb lets r g), (r, tOb T)], next := nx }, (Wk.cut rfl (by simp [hn]) (by simp [wkO, getK_cons, getK, getK_append, getK_del, Ob.under, D.under, under_rowsD, under_entD, hm, hr, hne, hne2, hmr, Ne.symm hmr, under_tOb, letsU, getK_append, getK_del, getK_cons, getK] <;> (try omega)) (by simp [wkU, keepE, getK_cons, getK, D.under, hm, hr, hne, hne2, hmr, Ne.symm hmr, under_tOb, letsU, getK_append, getK_del, getK_cons, getK] <;> (try omega)) (by simp [wkE, keepE, getK_cons, getK, hm, hr, hne, hne2, hmr, Ne.symm hmr, under_tOb, letsU, getK_append, getK_del, getK_cons, getK] <;> (try omega))), (by simp [hn] <;> (try omega)), ?_⟩; try simp)
      | ok v =>
        simp only [hbx, outV] at hb ⊢
        (refine RetX.of_bodyW Tryd.func46 rfl (by simp) fun Γ hn hpan => ?_); simp only [entry, List.zipIdx_cons, List.zipIdx_nil, List.map_cons, List.map_nil, Nat.zero_add, Tryd.ntmps46]
        repeat' (first
    | (refine HD4_okF (fun nx' h' => hx1 nx' (by simp at h'; omega) ht hvx) (by first | (simp [hne, hne2, hmr, Ne.symm hmr, c0, c1, c2, c3, c4, c5, Nat.add_assoc, del, getK_cons, getK, getK_append, getK_del, getK_setOb, applyW, del]; done) | fail) (by first | (simp [hne, hne2, hmr, Ne.symm hmr, c0, c1, c2, c3, c4, c5, Nat.add_assoc, del]; done) | fail) (by rfl) (by first | assumption | (simp; done) | fail) (by rfl) (by first | (simp [hne, hne2, hmr, Ne.symm hmr, c0, c1, c2, c3, c4, c5, Nat.add_assoc, del, D.under, Ob.under, under_rowsD, under_entD]; done) | (simp [hne, hne2, hmr, Ne.symm hmr, c0, c1, c2, c3, c4, c5, Nat.add_assoc, del, D.under, Ob.under, under_rowsD, under_entD]; omega) | fail) (by simp) ?_; (try simp [hne, hne2, hmr, Ne.symm hmr, c0, c1, c2, c3, c4, c5, Nat.add_assoc, del]))
    | (refine HD4_okF (fun nx' h' => hy1 _ _ nx' (by simp at h'; omega) hxok1 hvy) (by first | (simp [hne, hne2, hmr, Ne.symm hmr, c0, c1, c2, c3, c4, c5, Nat.add_assoc, del, getK_cons, getK, getK_append, getK_del, getK_setOb, applyW, del]; done) | fail) (by first | (simp [hne, hne2, hmr, Ne.symm hmr, c0, c1, c2, c3, c4, c5, Nat.add_assoc, del]; done) | fail) (by rfl) (by first | assumption | (simp; done) | fail) (by rfl) (by first | (simp [hne, hne2, hmr, Ne.symm hmr, c0, c1, c2, c3, c4, c5, Nat.add_assoc, del, D.under, Ob.under, under_rowsD, under_entD]; done) | (simp [hne, hne2, hmr, Ne.symm hmr, c0, c1, c2, c3, c4, c5, Nat.add_assoc, del, D.under, Ob.under, under_rowsD, under_entD]; omega) | fail) (by simp) ?_; (try simp [hne, hne2, hmr, Ne.symm hmr, c0, c1, c2, c3, c4, c5, Nat.add_assoc, del]))
    | (refine HD4_okL (fun nx' h' => hb nx' (by simp at h'; omega)) (by first | (simp [hne, hne2, hmr, Ne.symm hmr, c0, c1, c2, c3, c4, c5, Nat.add_assoc, del, getK_cons, getK, getK_append, getK_del, getK_setOb, applyW, del]; done) | fail) rfl (by first | (simp [hne, hne2, hmr, Ne.symm hmr, c0, c1, c2, c3, c4, c5, Nat.add_assoc, del]; done) | fail) (by rfl) (by first | assumption | (simp; done) | fail) (by rfl) (by first | (simp [hne, hne2, hmr, Ne.symm hmr, c0, c1, c2, c3, c4, c5, Nat.add_assoc, del, D.under, Ob.under, under_rowsD, under_entD]; done) | (simp [hne, hne2, hmr, Ne.symm hmr, c0, c1, c2, c3, c4, c5, Nat.add_assoc, del, D.under, Ob.under, under_rowsD, under_entD]; omega) | fail) (by simp) ?_; (try simp [hne, hne2, hmr, Ne.symm hmr, c0, c1, c2, c3, c4, c5, Nat.add_assoc, del]))
    | (refine H_cons ?_; simp [hne, hne2, hmr, Ne.symm hmr, c0, c1, c2, c3, c4, c5, Nat.add_assoc, del])
    | (refine HD4_val rfl ?_; simp [hne, hne2, hmr, Ne.symm hmr, c0, c1, c2, c3, c4, c5, Nat.add_assoc, del])
    | (refine H_nil ?_; simp [hne, hne2, hmr, Ne.symm hmr, c0, c1, c2, c3, c4, c5, Nat.add_assoc, del])
    | (refine V_sseq ?_; simp [hne, hne2, hmr, Ne.symm hmr, c0, c1, c2, c3, c4, c5, Nat.add_assoc, del])
    | (refine V_scond ?_; simp [hne, hne2, hmr, Ne.symm hmr, c0, c1, c2, c3, c4, c5, Nat.add_assoc, del])
    | (refine HD4_nil (hC _ (okP4_ren [m, r] nx (by simp <;> omega) (by simp <;> omega) (by apply Exists.intro; apply And.intro; (focus (repeat' (first | exact KF.nil | exact KL.nil | apply KF.cons | apply KL.cons 0 rfl | apply KL.cons 1 rfl | apply KL.cons 2 rfl | apply KL.cons 3 rfl | apply KL.cons 4 rfl | apply KL.cons 5 rfl | apply KL.cons 6 rfl | apply KL.cons 7 rfl | apply KL.cons 8 rfl | apply KL.cons 9 rfl))); kernel_rfl))) (hk _ ?_); clear hC hk C k; simp only [RunK])
    | (refine V_drawX rfl (by kernel_rfl) (by first | (simp [hn]; done) | (simp [hn]; omega) | fail) fun C k hC hk => ?_; simp [hne, hne2, hmr, Ne.symm hmr, c0, c1, c2, c3, c4, c5, Nat.add_assoc, del])
    | (refine V_sblock ?_; simp [hne, hne2, hmr, Ne.symm hmr, c0, c1, c2, c3, c4, c5, Nat.add_assoc, del])
    | (refine V_ret ?_; simp only [RunK])
    | (refine V_skip ?_; simp only [RunK])
    | fail)
        (refine EndW.here ?_; (first | (refine EndOK.fin (.inr rfl) ?_) | (refine EndOK.fin (.inl rfl) ?_)); simp [resD, oneOrTup, Tryd.results46, hm, hr, hne, hne2, hmr, Ne.symm hmr, under_tOb, letsU]; refine FinOK.cut [(m, mOb lets r g), (r, tOb T)] (nx) (by simp [getK_cons, getK, getK_append, getK_del, Ob.under, D.under, under_rowsD, under_entD, hm, hr, hne, hne2, hmr, Ne.symm hmr, under_tOb, letsU] <;> omega) (by simp [D.under]) (by simp [hn]) ?_; try simp)
end Go.Proofs.YtfcopibncpkdoaaDoor
namespace Go.Proofs.YtfcopibncpkdoaaDoor
open Go Go.VL
theorem args_1 {e : Exp} {d : Nat} (h : rightB (d + 1) e = true) (ho : operandsI e.op = 1) : ∃ x, e.args = [x] := by
  obtain ⟨h1, _⟩ := right_args h
  exact List.length_eq_one_iff.1 (by omega)
theorem args_2 {e : Exp} {d : Nat} (h : rightB (d + 1) e = true) (ho : operandsI e.op = 2) : ∃ x y, e.args = [x, y] := by
  obtain ⟨h1, _⟩ := right_args h
  match hl : e.args, h1 with
  | [a, b], _ => exact ⟨a, b, rfl⟩
  | [], h => simp at h; omega
  | [a], h => simp at h; omega
  | a :: b :: c :: l, h => simp at h; omega
theorem args_3 {e : Exp} {d : Nat} (h : rightB (d + 1) e = true) (ho : operandsI e.op = 3) : ∃ x y z, e.args = [x, y, z] := by
  obtain ⟨h1, _⟩ := right_args h
  match hl : e.args, h1 with
  | [a, b, c], _ => exact ⟨a, b, c, rfl⟩
  | [], h => simp at h; omega
  | [a], h => simp at h; omega
  | [a, b], h => simp at h; omega
  | a :: b :: c :: d :: l, h => simp at h; omega
theorem value_all {lets : List Let} {r : Nat} {g : GM} {m n : Nat} (hgs : ∀ s v, gF g s = some v → inC v) (hrb : ∀ l ∈ lets, rightB 12 l.body = true) (hl : lets.length ≤ 20) (hmr : m ≠ r) (hnl : n ≤ lets.length) (hN : NameOK lets r g m n) : ∀ (d : Nat) (e : Exp), rightB d e = true → ValOK lets r g m n e
  | 0, e, h => by simp [rightB] at h
  | d + 1, e, h => by
    obtain ⟨h1, h2, h3, h4⟩ := right_args h
    by_cases c0 : e.op = 0
    · exact value_num hmr c0
    by_cases c1 : e.op = 1
    · exact value_name hmr c1 hN
    have hV : ∀ x ∈ e.args, ValOK lets r g m n x := fun x hx => value_all hgs hrb hl hmr hnl hN d x (h4 c0 c1 x hx)
    have hT : ∀ x ∈ e.args, TMok lets.length (valL lets (gF g) n x) := fun x hx => valL_ok hrb hgs n d x (h4 c0 c1 x hx)
    by_cases c2 : e.op = 10
    · obtain ⟨x, y, he⟩ := args_2 h (by rw [c2]; rfl)
      rw [he] at hV hT
      exact value_and hmr c2 he (hV x (by simp)) (hT x (by simp)) (hV y (by simp)) (hT y (by simp))
    by_cases c3 : e.op = 11
    · obtain ⟨x, y, he⟩ := args_2 h (by rw [c3]; rfl)
      rw [he] at hV hT
      exact value_or hmr c3 he (hV x (by simp)) (hT x (by simp)) (hV y (by simp)) (hT y (by simp))
    by_cases c4 : e.op = 12
    · obtain ⟨x, he⟩ := args_1 h (by rw [c4]; rfl)
      rw [he] at hV hT
      exact value_not hmr c4 he (hV x (by simp)) (hT x (by simp))
    by_cases c5 : e.op = 13
    · obtain ⟨x, y, z, he⟩ := args_3 h (by rw [c5]; rfl)
      rw [he] at hV hT
      exact value_if hmr c5 he (hV x (by simp)) (hT x (by simp)) (hV y (by simp)) (hT y (by simp)) (hV z (by simp)) (hT z (by simp))
    obtain ⟨x, y, he⟩ := args_2 h (by unfold operandsI; split <;> first | omega | (split <;> first | omega | (split <;> first | omega | (split <;> omega))))
    rw [he] at hV hT
    exact value_bin hmr (by omega) hl hnl he (hV x (by simp)) (hT x (by simp)) (hV y (by simp)) (hT y (by simp))
theorem eval_all {lets : List Let} {r : Nat} {g : GM} {m : Nat} (hgs : ∀ s v, gF g s = some v → inC v) (hrb : ∀ l ∈ lets, rightB 12 l.body = true) (hl : lets.length ≤ 20) (hmr : m ≠ r) :
    ∀ n, n ≤ lets.length → ∀ (d : Nat) (e : Exp), rightB d e = true → ValOK lets r g m n e := by
  intro n
  induction n using Nat.strongRecOn with
  | _ n ih =>
    intro hnl
    refine value_all hgs hrb hl hmr hnl fun s t nx hm hr ht => ?_
    exact name_ret hgs hrb (fun i l hi hx => try_ret (ih i hi (by omega) 12 l.body (hrb l (List.mem_of_getElem? hx))) hmr) s hnl hl hmr t nx hm hr ht
/-- The given values, the first of each name. -/
def gV (vars : List Var) : GM := vars.foldl (fun g v => if asc g v.name = none then ascPut g v.name v.n else g) []
theorem gV_succ {vars : List Var} {i : Nat} {v : Var} (h : vars[i]? = some v) : gV (vars.take (i + 1)) = if asc (gV (vars.take i)) v.name = none then ascPut (gV (vars.take i)) v.name v.n else gV (vars.take i) := foldl_succ _ _ h
def inCB (v : Var) : Bool := decide (v.n ≤ 1099511627776) && decide (-1099511627776 ≤ v.n)
theorem gV_in : ∀ (vars : List Var) (g : GM), (∀ s v, asc g s = some v → inC v) → (∀ v ∈ vars, inCB v = true) → ∀ s v, asc (vars.foldl (fun g v => if asc g v.name = none then ascPut g v.name v.n else g) g) s = some v → inC v
  | [], g, hg, _, s, v, h => hg s v h
  | x :: l, g, hg, hv, s, v, h => by
    refine gV_in l _ ?_ (fun y hy => hv y (by simp [hy])) s v h
    intro s' v' h'
    simp only at h'
    split at h'
    · rw [asc_put] at h'
      split at h'
      · cases h'
        have := hv x (by simp)
        simp only [inCB, Bool.and_eq_true, decide_eq_true_eq] at this
        exact ⟨this.2, this.1⟩
      · exact hg s' v' h'
    · exact hg s' v' h'
def tab0 (lets : List Let) : Tab := List.replicate lets.length (0, 0, false)
/-- What Value returns. -/
def valueP (lets : List Let) (vars : List Var) (e : Exp) : Int × Int :=
  if rightAll lets e = true ∧ vars.all inCB = true then ((entX (valL lets (gF (gV vars)) lets.length e (tab0 lets)).1).1, (entX (valL lets (gF (gV vars)) lets.length e (tab0 lets)).1).2.1) else (0, 1)
attribute [local simp] HS hcons hstep evPure opd uOf putOK St.put St.at getK binD binI binS binB nilD aggD eqUs cmpK lookD lookR rangeD nextD entryD keyD valU keyU lookK mkV entD_nil lookK_entD updK_entD1 updK_entD3 allUE allUE_entD makeMapD mapUpdD mapEff updK valM Key.kk shiftI arith unD convD pickD loadD cellsAt fieldAddrD fieldD indexAddrD indexD sliceD cutD lenD minmaxD nilCheckD buildD fillD cellsD isOne ones setAll mkAgg allU allocD boxD storeD St.add buildSliceD appendD rowsOf makeD setOb getK_setOb getK_del getK_cons stripL strip guardTmp entry chunks zcells valD argsV argsW argW argU1 argU0 argsU0 argsU1 calleeOf scalarD scalarU delAll effD St.effS RK_seq RK_seq_ret RK_seq_exit RK_blk RK_blk_ret RK_blk_exit RK_loop RK_loop_ret RK_loop_exit RK_done vs_seq vs_block vs_cond vs_region vs_loop vs_draw applyW mkD rdIds lentIds callOf calleeOf freeOp D.ids Op.operands Call.operands isEffOp makeIfD typeAssertD conc concs conc1 uOfV panicD IntKind.bits allU2 allU2_append List.take_of_length_le List.range_succ
attribute [local irreducible] V G H HD HD2 HD4 HD4h RetX RunK Eff CallP CallV EndOK Fun Ret FinOK LoopI LoopW EndW
theorem value_fun (lets : List Let) (vars : List Var) (e : Exp) : Fun Tryd.prog 13 [.u (letsU lets), .u (varsU vars), eagg e] (· = .tup [.u (.int .i64 (valueP lets vars e).1), .u (.int .i64 (valueP lets vars e).2)]) := by
  have h1 := rightExp_fun e
  generalize hK : valueP lets vars e = K
  unfold valueP rightAll at hK
  by_cases hre : rightB 12 e = true
  case neg =>
    have hre2 : rightB 12 e = false := by simpa using hre
    rw [if_neg (by simp [hre2])] at hK
    subst hK
    rw [hre2] at h1
    simp only [letsU, varsU, eagg] at h1 ⊢
    (refine Fun.of_bodyW Tryd.func13 rfl (by simp) fun Γ hn => ?_); simp only [entry, List.zipIdx_cons, List.zipIdx_nil, List.map_cons, List.map_nil, Nat.zero_add, Tryd.ntmps13]
    repeat' (first
    | (refine H_cons ?_; simp)
    | (refine H_nil ?_; simp)
    | (refine V_sseq ?_; simp)
    | (refine V_scond ?_; simp)
    | (refine V_ret ?_; simp only [RunK])
    | (refine CallP.fun_ (h1) (by first | rfl | fail) (by first | assumption | (simp; done) | fail) (by first | (simp; done) | (simp; rfl) | fail) (by first | (simp; done) | fail) (fun d hd => ?_); subst hd; (try simp))
    | fail)
    refine EndW.here ?_
    (refine EndOK.val (.inr rfl) ?_; simp [resD, oneOrTup, pureD, Tryd.results13])
  by_cases hll : lets.length ≤ 20
  case neg =>
    have hll2 : 20 < (lets.length : Int) := by omega
    rw [if_neg (by simp [hll])] at hK
    subst hK
    rw [hre] at h1
    simp only [letsU, varsU, eagg] at h1 ⊢
    (refine Fun.of_bodyW Tryd.func13 rfl (by simp) fun Γ hn => ?_); simp only [entry, List.zipIdx_cons, List.zipIdx_nil, List.map_cons, List.map_nil, Nat.zero_add, Tryd.ntmps13]
    refine V_len (x := 0) rfl fun hl0 => ?_
    simp only [List.length_map] at hl0
    repeat' (first
    | (refine H_cons ?_; simp [hll2])
    | (refine H_nil ?_; simp [hll2])
    | (refine V_sseq ?_; simp [hll2])
    | (refine V_scond ?_; simp [hll2])
    | (refine V_ret ?_; simp only [RunK])
    | (refine CallP.fun_ (h1) (by first | rfl | fail) (by first | assumption | (simp; done) | fail) (by first | (simp [hll2]; done) | (simp [hll2]; rfl) | fail) (by first | (simp; done) | fail) (fun d hd => ?_); subst hd; (try simp [hll2]))
    | fail)
    refine EndW.here ?_
    (refine EndOK.val (.inr rfl) ?_; simp [resD, oneOrTup, pureD, Tryd.results13])
  have hll2 : ¬ 20 < (lets.length : Int) := by omega
  rw [hre] at h1
  simp only [letsU, varsU, eagg] at h1 ⊢
  (refine Fun.of_bodyW Tryd.func13 rfl (by simp) fun Γ hn => ?_); simp only [entry, List.zipIdx_cons, List.zipIdx_nil, List.map_cons, List.map_nil, Nat.zero_add, Tryd.ntmps13]
  refine V_len (x := 1) rfl fun hl1 => ?_
  simp only [List.length_map] at hl1
  repeat' (first
    | (refine H_cons ?_; simp [hll2])
    | (refine H_nil ?_; simp [hll2])
    | (refine V_sseq ?_; simp [hll2])
    | (refine V_scond ?_; simp [hll2])
    | (refine V_sblock ?_; simp [hll2])
    | (refine V_skip ?_; simp only [RunK])
    | (refine CallP.fun_ (h1) (by first | rfl | fail) (by first | assumption | (simp; done) | fail) (by first | (simp [hll2]; done) | (simp [hll2]; rfl) | fail) (by first | (simp; done) | fail) (fun d hd => ?_); subst hd; (try simp [hll2]))
    | fail)
  refine V_loopO (α := { i : Nat // i ≤ lets.length ∧ ∀ l ∈ lets.take i, rightB 12 l.body = true }) [0, 1, 5, 23, 24] (fun i => [(25, .u (.int .i64 i.1))])
    (fun i => [(0, .box [.u (.int .i64 e.op), .u (.int .i64 e.n), .u (.int .i64 e.unit), .u (.str e.s), .u (.sl (e.args.map Exp.row))])]) 1
    (fun i => lets.length - i.1) ⟨0, by omega, by simp⟩ ?_ ?_
  · exact (Wk.cut rfl (by simp [hn, St.lp]) (by simp [wkO, St.lp, getK_cons, getK, Ob.under, D.under, under_rowsD, under_entD, Ob.under]) (by simp [wkU, St.lp, keepE, getK_cons, getK, D.under, Ob.under]) (by simp [wkE, St.lp, keepE, getK_cons, getK, Ob.under] <;> (try (intros; simp_all; done)) <;> (try (intros; omega)) <;> (try grind)))
  rintro ⟨i, hi, hb⟩
  simp [St.lp, St.only, keepE, getK_cons, getK]
  rcases hx : lets[i]? with _ | l
  · have hge : lets.length ≤ i := by simpa using hx
    obtain rfl : i = lets.length := by omega
    rw [List.take_length] at hb
    repeat' (first
    | (refine H_cons ?_; simp [hx])
    | (refine H_nil ?_; simp [hx])
    | (refine ⟨by omega, ?_⟩)
    | (refine V_sseq ?_; simp [hx])
    | (refine V_sblock ?_; simp [hx])
    | (refine V_exit ?_; simp [RunK])
    | fail)
    have hrg : rightAll lets e = true := by
      simp only [rightAll, Bool.and_eq_true, decide_eq_true_eq, Bool.not_eq_true', List.any_eq_false]
      exact ⟨⟨hll, hre⟩, fun l hl => by simp [hb l hl]⟩
    refine V_loopO (α := { i : Nat // i ≤ vars.length ∧ ∀ v ∈ vars.take i, inCB v = true }) [0, 5, 10, 41, 42] (fun i => [(43, .u (.int .i64 i.1))])
      (fun i => [(3, .box [.u (.sl (lets.map fun l => [.str l.name, .int .i64 l.body.op, .int .i64 l.body.n, .int .i64 l.body.unit, .str l.body.s, .sl (l.body.args.map Exp.row)])), .vec 1 lets.length, .mp 2]), (2, .map .s false (entD (gmap (gV (vars.take i.1))))),
        (1, .vec 153 3 (List.replicate lets.length [.u (.int .i64 0), .u (.int .i64 0), .u (.bool false)])), (0, .box [.u (.int .i64 e.op), .u (.int .i64 e.n), .u (.int .i64 e.unit), .u (.str e.s), .u (.sl (e.args.map Exp.row))])]) 4
      (fun i => vars.length - i.1) ⟨0, by omega, by simp⟩ ?_ ?_
    · exact (Wk.cut rfl (by simp [hn, St.lp]) (by simp [wkO, St.lp, getK_cons, getK, Ob.under, D.under, under_rowsD, under_entD, gV, gmap, entD_nil, Ob.under]) (by simp [wkU, St.lp, keepE, getK_cons, getK, D.under, gV, gmap, entD_nil, Ob.under]) (by simp [wkE, St.lp, keepE, getK_cons, getK, gV, gmap, entD_nil, Ob.under] <;> (try (intros; simp_all; done)) <;> (try (intros; omega)) <;> (try grind)))
    rintro ⟨j, hj, hvb⟩
    simp [St.lp, St.only, keepE, getK_cons, getK]
    rcases hy : vars[j]? with _ | v
    · have hge : vars.length ≤ j := by simpa using hy
      obtain rfl : j = vars.length := by omega
      rw [List.take_length] at hvb
      have hva : vars.all inCB = true := by simpa [List.all_eq_true] using hvb
      have hgs : ∀ s v, gF (gV vars) s = some v → inC v := gV_in vars [] (fun s v h => by simp [asc] at h) hvb
      rw [if_pos ⟨hrg, hva⟩] at hK
      have htry := fun nx' (h : 4 ≤ nx') => try_ret (eval_all (r := 1) (m := 3) hgs hb hll (by decide) lets.length (Nat.le_refl _) 12 e hre) (by decide) (tab0 lets) nx' (by omega) (by omega) ⟨by simp [tab0], fun i v er d hi => by
        have h7 : (v, er, d) = (0, 0, false) := List.eq_of_mem_replicate (List.mem_of_getElem? hi)
        cases h7
        unfold inC; omega⟩
      have htb : tOb (tab0 lets) = .vec 153 3 (List.replicate lets.length [.u (.int .i64 0), .u (.int .i64 0), .u (.bool false)]) := by simp [tOb, tab0]
      rw [htb] at htry
      simp only [eagg, mOb, letsU] at htry
      subst hK
      repeat' (first
    | (refine H_cons ?_; simp [hy, List.take_length])
    | (refine H_nil ?_; simp [hy, List.take_length])
    | (refine V_sseq ?_; simp [hy, List.take_length])
    | (refine V_exit ?_; simp [RunK])
    | fail)
      refine CallP_wk (Wk.frzM (us := gmap (gV vars)) 2 [3, 2, 1, 0] rfl (by simp)) ?_
      simp [frz_env, frz_obs, St.frzS, frzS, fv, fzVec, fzMap, fzBox, frzObS, frz_entD, frz_rowsD, del]
      repeat' (first
    | (refine H_cons ?_; simp [hy])
    | (refine H_nil ?_; simp [hy])
    | (refine V_ret ?_; simp only [RunK])
    | (refine CallP.okL (htry _ (by first | omega | (simp; done) | (simp; omega) | fail)) (by first | (simp [hy, getK_cons, getK, getK_append, getK_del, getK_setOb, applyW, del]; done) | fail) (by rfl) (by first | assumption | (simp; done) | fail) (by rfl) (by simp) ?_; (try simp [hy, delL, del]))
    | fail)
      refine EndW.here ?_
      (refine EndOK.val (.inr rfl) ?_; simp [resD, oneOrTup, pureD, Tryd.results13])
    · have hlt : j < vars.length := (List.getElem?_eq_some_iff.1 hy).1
      have hg := look_g (gV (vars.take j)) v.name
      have hsu := gV_succ hy
      by_cases hv : inCB v = true
      · have hv1 := hv
        simp only [inCB, Bool.and_eq_true, decide_eq_true_eq] at hv1
        have hv2 : ¬ 1099511627776 < v.n := by omega
        have hv3 : ¬ v.n < -1099511627776 := by omega
        cases hga : asc (gV (vars.take j)) v.name with
        | some u =>
          rw [hga] at hg hsu
          simp only [Option.map_some] at hg
          repeat' (first
    | (refine H_cons ?_; simp [hy, hg, hv2, hv3])
    | (refine HD4_val rfl ?_; simp [hy, hg, hv2, hv3])
    | (refine H_nil ?_; simp [hy, hg, hv2, hv3])
    | (refine ⟨by omega, ?_⟩)
    | (refine V_sseq ?_; simp [hy, hg, hv2, hv3])
    | (refine V_scond ?_; simp [hy, hg, hv2, hv3])
    | (refine HD4_nil (hC _ (by kernel_rfl)) (hk _ ?_); clear hC hk C k; simp only [RunK])
    | (refine V_drawX rfl (by kernel_rfl) (by first | (simp [hn]; done) | (simp [hn]; omega) | fail) fun C k hC hk => ?_; simp [hy, hg, hv2, hv3])
    | (refine V_sregion ?_; simp [hy, hg, hv2, hv3])
    | (refine V_skip ?_; simp only [RunK])
    | (refine ⟨?_, by omega⟩)
    | (intro hc <;> (try (exfalso; omega)))
    | fail)
          refine LoopW.next ⟨j + 1, by omega, take_succ_all hy hvb hv⟩ (by simp; omega) ?_
          exact (Wk.cut rfl (by simp [hn, St.lp]) (by simp [wkO, St.lp, getK_cons, getK, Ob.under, D.under, under_rowsD, under_entD, hsu]) (by simp [wkU, St.lp, keepE, getK_cons, getK, D.under, hsu]) (by simp [wkE, St.lp, keepE, getK_cons, getK, hsu] <;> (try (intros; simp_all; done)) <;> (try (intros; omega)) <;> (try grind)))
        | none =>
          rw [hga] at hg hsu
          simp only [Option.map_none] at hg
          repeat' (first
    | (refine H_cons ?_; simp [hy, hg, upd_g, hv2, hv3])
    | (refine HD4_val rfl ?_; simp [hy, hg, upd_g, hv2, hv3])
    | (refine HD4_chg rfl ?_; simp [hy, hg, upd_g, hv2, hv3])
    | (refine H_nil ?_; simp [hy, hg, upd_g, hv2, hv3])
    | (refine ⟨by omega, ?_⟩)
    | (refine V_sseq ?_; simp [hy, hg, upd_g, hv2, hv3])
    | (refine V_scond ?_; simp [hy, hg, upd_g, hv2, hv3])
    | (refine HD4_nil (hC _ (by kernel_rfl)) (hk _ ?_); clear hC hk C k; simp only [RunK])
    | (refine V_drawX rfl (by kernel_rfl) (by first | (simp [hn]; done) | (simp [hn]; omega) | fail) fun C k hC hk => ?_; simp [hy, hg, upd_g, hv2, hv3])
    | (refine V_sregion ?_; simp [hy, hg, upd_g, hv2, hv3])
    | (refine V_skip ?_; simp only [RunK])
    | (refine ⟨?_, by omega⟩)
    | (intro hc <;> (try (exfalso; omega)))
    | fail)
          refine LoopW.next ⟨j + 1, by omega, take_succ_all hy hvb hv⟩ (by simp; omega) ?_
          exact (Wk.cut rfl (by simp [hn, St.lp]) (by simp [wkO, St.lp, getK_cons, getK, Ob.under, D.under, under_rowsD, under_entD, hsu]) (by simp [wkU, St.lp, keepE, getK_cons, getK, D.under, hsu]) (by simp [wkE, St.lp, keepE, getK_cons, getK, hsu] <;> (try (intros; simp_all; done)) <;> (try (intros; omega)) <;> (try grind)))
      · have hv1 : 1099511627776 < v.n ∨ v.n < -1099511627776 := by
          simp only [inCB, Bool.and_eq_true, decide_eq_true_eq] at hv
          omega
        rw [if_neg (by
          rintro ⟨_, h⟩
          rw [List.all_eq_true] at h
          exact hv (h v (List.mem_of_getElem? hy)))] at hK
        subst hK
        by_cases hv2 : 1099511627776 < v.n
        · repeat' (first
    | (refine H_cons ?_; simp [hy, hv2])
    | (refine H_nil ?_; simp [hy, hv2])
    | (refine V_sseq ?_; simp [hy, hv2])
    | (refine V_scond ?_; simp [hy, hv2])
    | (refine V_ret ?_; simp only [RunK])
    | (refine V_skip ?_; simp only [RunK])
    | (refine ⟨?_, by omega⟩)
    | (intro hc <;> (try (exfalso; omega)))
    | fail)
          refine EndW.here ?_
          (refine EndOK.val (.inr rfl) ?_; simp [resD, oneOrTup, pureD, Tryd.results13])
        · have hv3 : v.n < -1099511627776 := by omega
          repeat' (first
    | (refine H_cons ?_; simp [hy, hv2, hv3])
    | (refine H_nil ?_; simp [hy, hv2, hv3])
    | (refine V_sseq ?_; simp [hy, hv2, hv3])
    | (refine V_scond ?_; simp [hy, hv2, hv3])
    | (refine V_ret ?_; simp only [RunK])
    | (refine V_skip ?_; simp only [RunK])
    | (refine ⟨?_, by omega⟩)
    | (intro hc <;> (try (exfalso; omega)))
    | fail)
          refine EndW.here ?_
          (refine EndOK.val (.inr rfl) ?_; simp [resD, oneOrTup, pureD, Tryd.results13])
  · have hlt : i < lets.length := (List.getElem?_eq_some_iff.1 hx).1
    have h2 := rightExp_fun l.body
    simp only [eagg] at h2
    by_cases hlb : rightB 12 l.body = true
    · rw [hlb] at h2
      repeat' (first
    | (refine H_cons ?_; simp [hx])
    | (refine H_nil ?_; simp [hx])
    | (refine ⟨by omega, ?_⟩)
    | (refine V_sseq ?_; simp [hx])
    | (refine V_scond ?_; simp [hx])
    | (refine V_sregion ?_; simp [hx])
    | (refine V_skip ?_; simp only [RunK])
    | (refine ⟨?_, by omega⟩)
    | (intro hc <;> (try (exfalso; omega)))
    | (refine CallP.fun_ (h2) (by first | rfl | fail) (by first | assumption | (simp; done) | fail) (by first | (simp [hx]; done) | (simp [hx]; rfl) | fail) (by first | (simp; done) | fail) (fun d hd => ?_); subst hd; (try simp [hx]))
    | fail)
      refine LoopW.next ⟨i + 1, by omega, take_succ_all hx hb hlb⟩ (by simp; omega) ?_
      exact (Wk.cut rfl (by simp [hn, St.lp]) (by simp [wkO, St.lp, getK_cons, getK, Ob.under, D.under, under_rowsD, under_entD, Ob.under]) (by simp [wkU, St.lp, keepE, getK_cons, getK, D.under, Ob.under]) (by simp [wkE, St.lp, keepE, getK_cons, getK, Ob.under] <;> (try (intros; simp_all; done)) <;> (try (intros; omega)) <;> (try grind)))
    · have hlb2 : rightB 12 l.body = false := by simpa using hlb
      rw [hlb2] at h2
      rw [if_neg (by
        rintro ⟨h, _⟩
        simp only [Bool.and_eq_true, Bool.not_eq_true', List.any_eq_false] at h
        have := h.2 l (List.mem_of_getElem? hx)
        simp [hlb2] at this)] at hK
      subst hK
      repeat' (first
    | (refine H_cons ?_; simp [hx])
    | (refine H_nil ?_; simp [hx])
    | (refine V_sseq ?_; simp [hx])
    | (refine V_scond ?_; simp [hx])
    | (refine V_ret ?_; simp only [RunK])
    | (refine V_skip ?_; simp only [RunK])
    | (refine ⟨?_, by omega⟩)
    | (intro hc <;> (try (exfalso; omega)))
    | (refine CallP.fun_ (h2) (by first | rfl | fail) (by first | assumption | (simp; done) | fail) (by first | (simp [hx]; done) | (simp [hx]; rfl) | fail) (by first | (simp; done) | fail) (fun d hd => ?_); subst hd; (try simp [hx]))
    | fail)
      refine EndW.here ?_
      (refine EndOK.val (.inr rfl) ?_; simp [resD, oneOrTup, pureD, Tryd.results13])
end Go.Proofs.YtfcopibncpkdoaaDoor
namespace Go.Proofs.YtfcopibncpkdoaaDoor
open Go Go.VL
structure Tok where
  kind : Int
  text : List UInt8
  n : Int
  pos : Int
  deriving DecidableEq, Inhabited
def Tok.row (t : Tok) : List U := [.int .i64 t.kind, .str t.text, .int .i64 t.n, .int .i64 t.pos]
def isBlank (c : UInt8) : Bool := decide (c.toNat = 32) || decide (c.toNat = 9) || decide (c.toNat = 10)
def isWordC (c : UInt8) : Bool := isLetter c || isDigit c
def digitsV (s : List UInt8) : Int := s.foldl (fun n c => 10 * n + ((c.toNat : Int) - 48)) 0
def numberO (s : List UInt8) : Option Int :=
  if s = [] ∨ spanL isDigit s ≠ s.length ∨ (s.head? = some 48 ∧ s ≠ [48]) ∨ 13 < s.length then none else if 1099511627776 < digitsV s then none else some (digitsV s)
theorem digitsV_snoc (s : List UInt8) (c : UInt8) : digitsV (s ++ [c]) = 10 * digitsV s + ((c.toNat : Int) - 48) := by simp [digitsV]
theorem digitsV_range : ∀ (n : Nat) (s : List UInt8), s.length = n → (∀ c ∈ s, isDigit c = true) → 0 ≤ digitsV s ∧ digitsV s < 10 ^ n
  | 0, s, h, _ => by have := List.eq_nil_of_length_eq_zero h; subst this; simp [digitsV]
  | n + 1, s, h, hd => by
    have hne : s ≠ [] := fun e => by rw [e] at h; simp at h
    obtain ⟨t, c, rfl⟩ : ∃ t c, s = t ++ [c] := ⟨s.dropLast, s.getLast hne, (List.dropLast_concat_getLast hne).symm⟩
    have h1 := digitsV_range n t (by simpa using h) (fun x hx => hd x (by simp [hx]))
    have h2 := hd c (by simp)
    simp only [isDigit, Bool.and_eq_true, decide_eq_true_eq] at h2
    rw [digitsV_snoc]
    have : (10 : Int) ^ (n + 1) = 10 * 10 ^ n := by rw [Int.pow_succ]; omega
    omega
attribute [local simp] hcons hstep evPure opd uOf putOK St.put St.at getK binD binI binS binB nilD aggD eqUs cmpK lookD lookR rangeD nextD entryD keyD valU keyU lookK mkV entD_nil lookK_entD updK_entD1 updK_entD3 allUE allUE_entD makeMapD mapUpdD mapEff updK valM Key.kk shiftI arith unD convD pickD loadD cellsAt fieldAddrD fieldD indexAddrD indexD sliceD cutD lenD minmaxD nilCheckD buildD fillD cellsD isOne ones setAll mkAgg allU allocD boxD storeD St.add buildSliceD appendD rowsOf makeD setOb getK_setOb getK_del getK_cons stripL strip guardTmp entry chunks zcells valD argsV argsW argW argU1 argU0 argsU0 argsU1 calleeOf scalarD scalarU delAll effD St.effS RK_seq RK_seq_ret RK_seq_exit RK_blk RK_blk_ret RK_blk_exit RK_loop RK_loop_ret RK_loop_exit RK_done vs_seq vs_block vs_cond vs_region vs_loop vs_draw applyW mkD rdIds lentIds callOf calleeOf freeOp D.ids Op.operands Call.operands isEffOp makeIfD typeAssertD conc concs conc1 uOfV panicD IntKind.bits allU2 allU2_append List.take_of_length_le List.range_succ
attribute [local irreducible] V G H HD HD2 RunK Eff CallP CallV EndOK Fun Ret FinOK LoopI LoopW EndW
theorem blank_fun (c : UInt8) : Fun Tryd.prog 94 [.u (.int .u8 c.toNat)] (· = .u (.bool (isBlank c))) := by
  unfold isBlank
  (refine Fun.of_body Tryd.func94 rfl (by simp) fun Γ hn => ?_); simp only [entry, List.zipIdx_cons, List.zipIdx_nil, List.map_cons, List.map_nil, Nat.zero_add, Tryd.ntmps94]
  repeat' (first
    | (refine H_cons ?_; simp)
    | (refine H_nil ?_; simp)
    | (refine V_sseq ?_; simp)
    | (refine V_ret ?_; simp only [RunK])
    | (refine ⟨fun hc => ?_, fun hc => ?_⟩ <;> (try (exfalso; omega)))
    | fail)
  all_goals
    (refine EndOK.val (.inr rfl) ?_; simp [resD, oneOrTup, pureD, Tryd.results94])
  all_goals first | omega | (rw [Bool.eq_iff_iff]; simp; omega) | (simp; omega)
theorem next1_fun (c : UInt8) : Fun Tryd.prog 112 [.u (.int .u8 c.toNat)] (· = .u (.bool (isWordC c))) := by
  unfold isWordC
  (refine Fun.of_body Tryd.func112 rfl (by simp) fun Γ hn => ?_); simp only [entry, List.zipIdx_cons, List.zipIdx_nil, List.map_cons, List.map_nil, Nat.zero_add, Tryd.ntmps112]
  repeat' (first
    | (refine H_cons ?_; simp)
    | (refine H_nil ?_; simp)
    | (refine V_sseq ?_; simp)
    | (refine V_ret ?_; simp only [RunK])
    | (refine ⟨fun hc => ?_, fun hc => ?_⟩ <;> (try (exfalso; omega)))
    | (refine CallP.fun_ (letter_fun c) (by first | rfl | fail) (by first | assumption | (simp; done) | fail) (by first | (simp; done) | (simp; rfl) | fail) (by first | (simp; done) | fail) (fun d hd => ?_); subst hd; (try simp))
    | (refine CallP.fun_ (digit_fun c) (by first | rfl | fail) (by first | assumption | (simp; done) | fail) (by first | (simp; done) | (simp; rfl) | fail) (by first | (simp; done) | fail) (fun d hd => ?_); subst hd; (try simp))
    | fail)
  all_goals
    (refine EndOK.val (.inr rfl) ?_; simp [resD, oneOrTup, pureD, Tryd.results112])
  all_goals simp_all
theorem spanL_le (p : UInt8 → Bool) (l : List UInt8) : spanL p l ≤ l.length := by
  unfold spanL
  exact (List.takeWhile_sublist p).length_le
theorem spanL_all {p : UInt8 → Bool} {l : List UInt8} (h : spanL p l = l.length) : ∀ c ∈ l, p c = true := by
  have : l.takeWhile p = l := (List.takeWhile_sublist p).eq_of_length h
  intro c hc
  rw [← this] at hc
  exact List.all_eq_true.1 (List.all_takeWhile (l := l) (p := p)) c hc
theorem number_fun (s : List UInt8) (hl : s.length ≤ 1000000) : Fun Tryd.prog 113 [.u (.str s)] (· = .tup [.u (.int .i64 ((numberO s).getD 0)), .u (.bool (numberO s).isSome)]) := by
  have hsp := span_fun s hl 104 isDigit (fun c _ => digit_fun c) (by simp)
  unfold numberO
  cases s with
  | nil =>
    (refine Fun.of_body Tryd.func113 rfl (by simp) fun Γ hn => ?_); simp only [entry, List.zipIdx_cons, List.zipIdx_nil, List.map_cons, List.map_nil, Nat.zero_add, Tryd.ntmps113]
    repeat' (first
    | (refine H_cons ?_; simp)
    | (refine H_nil ?_; simp)
    | (refine V_sseq ?_; simp)
    | (refine V_scond ?_; simp)
    | (refine V_ret ?_; simp only [RunK])
    | fail)
    all_goals
      (refine EndOK.val (.inr rfl) ?_; simp [resD, oneOrTup, pureD, Tryd.results113])
  | cons c s =>
    by_cases h1 : spanL isDigit (c :: s) = (c :: s).length
    case neg =>
      rw [if_pos (.inr (.inl h1))]
      have h1' : ¬ (spanL isDigit (c :: s) : Int) = s.length + 1 := by simp at h1; omega
      (refine Fun.of_body Tryd.func113 rfl (by simp) fun Γ hn => ?_); simp only [entry, List.zipIdx_cons, List.zipIdx_nil, List.map_cons, List.map_nil, Nat.zero_add, Tryd.ntmps113]
      repeat' (first
    | (refine H_cons ?_; simp [h1'])
    | (refine H_nil ?_; simp [h1'])
    | (refine V_sseq ?_; simp [h1'])
    | (refine V_scond ?_; simp [h1'])
    | (refine V_ret ?_; simp only [RunK])
    | (refine CallP.fun_ (hsp) (by first | rfl | fail) (by first | assumption | (simp; done) | fail) (by first | (simp [h1']; done) | (simp [h1']; rfl) | fail) (by first | (simp; done) | fail) (fun d hd => ?_); subst hd; (try simp [h1']))
    | fail)
      all_goals
        (refine EndOK.val (.inr rfl) ?_; simp [resD, oneOrTup, pureD, Tryd.results113])
    have h1' : (spanL isDigit (c :: s) : Int) = s.length + 1 := by simp at h1; omega
    by_cases h2 : c.toNat = 48 ∧ s ≠ []
    · rw [if_pos (.inr (.inr (.inl ⟨by have := h2.1; simp; exact UInt8.toNat_inj.1 this, by simp; intro _; exact h2.2⟩)))]
      have h2b := h2.1
      have h2a := h2.2
      (refine Fun.of_body Tryd.func113 rfl (by simp) fun Γ hn => ?_); simp only [entry, List.zipIdx_cons, List.zipIdx_nil, List.map_cons, List.map_nil, Nat.zero_add, Tryd.ntmps113]
      repeat' (first
    | (refine H_cons ?_; simp [h1', h2a, h2b])
    | (refine H_nil ?_; simp [h1', h2a, h2b])
    | (refine V_sseq ?_; simp [h1', h2a, h2b])
    | (refine V_scond ?_; simp [h1', h2a, h2b])
    | (refine V_ret ?_; simp only [RunK])
    | (refine CallP.fun_ (hsp) (by first | rfl | fail) (by first | assumption | (simp; done) | fail) (by first | (simp [h1', h2a, h2b]; done) | (simp [h1', h2a, h2b]; rfl) | fail) (by first | (simp; done) | fail) (fun d hd => ?_); subst hd; (try simp [h1', h2a, h2b]))
    | fail)
      all_goals
        (refine EndOK.val (.inr rfl) ?_; simp [resD, oneOrTup, pureD, Tryd.results113])
    have h2' : c.toNat = 48 → s = [] := fun h => by
      by_cases hs : s = []
      · exact hs
      · exact absurd ⟨h, hs⟩ h2
    by_cases h3 : 13 < (c :: s).length
    · rw [if_pos (.inr (.inr (.inr h3)))]
      have h3' : 13 < (s.length : Int) + 1 := by simp at h3; omega
      have hne : s ≠ [] := fun e => by rw [e] at h3; simp at h3
      have h2'' : ¬ c.toNat = 48 := fun h => hne (h2' h)
      (refine Fun.of_body Tryd.func113 rfl (by simp) fun Γ hn => ?_); simp only [entry, List.zipIdx_cons, List.zipIdx_nil, List.map_cons, List.map_nil, Nat.zero_add, Tryd.ntmps113]
      repeat' (first
    | (refine H_cons ?_; simp [h1', h2'', h3'])
    | (refine H_nil ?_; simp [h1', h2'', h3'])
    | (refine ⟨by omega, ?_⟩)
    | (refine V_sseq ?_; simp [h1', h2'', h3'])
    | (refine V_scond ?_; simp [h1', h2'', h3'])
    | (refine V_ret ?_; simp only [RunK])
    | (intro hc <;> (try (exfalso; omega)))
    | (refine CallP.fun_ (hsp) (by first | rfl | fail) (by first | assumption | (simp; done) | fail) (by first | (simp [h1', h2'', h3']; done) | (simp [h1', h2'', h3']; rfl) | fail) (by first | (simp; done) | fail) (fun d hd => ?_); subst hd; (try simp [h1', h2'', h3']))
    | fail)
      all_goals
        (refine EndOK.val (.inr rfl) ?_; simp [resD, oneOrTup, pureD, Tryd.results113])
    have hall := spanL_all h1
    rw [if_neg (by
      simp only [not_or]
      refine ⟨by simp, fun h => h h1, fun h => ?_, h3⟩
      have hc48 : c = 48 := by have := h.1; simpa using this
      have := h2' (by rw [hc48]; rfl)
      rw [this, hc48] at h
      exact h.2 rfl)]
    have h3' : ¬ 13 < (s.length : Int) + 1 := by simp at h3; omega
    have hval : ∀ k, k ≤ (c :: s).length → 0 ≤ digitsV ((c :: s).take k) ∧ digitsV ((c :: s).take k) < 10 ^ 13 := fun k hk => by
      have h4 := digitsV_range k ((c :: s).take k) (by simp; simp at hk; omega) (fun x hx => hall x (List.mem_of_mem_take hx))
      have : (10 : Int) ^ k ≤ 10 ^ 13 := by
        have := Nat.pow_le_pow_right (n := 10) (by omega) (show k ≤ 13 by simp at h3 hk; omega)
        exact_mod_cast this
      omega
    have hloop : ∀ (hw : c.toNat = 48 → s = []), Fun Tryd.prog 113 [.u (.str (c :: s))] (· = .tup [.u (.int .i64 ((if 1099511627776 < digitsV (c :: s) then none else some (digitsV (c :: s)) : Option Int).getD 0)), .u (.bool (if 1099511627776 < digitsV (c :: s) then none else some (digitsV (c :: s)) : Option Int).isSome)]) := fun hw => by
      by_cases h48 : c.toNat = 48
      · have h48' : (c.toNat : Int) = 48 := by omega
        have hc48 : (c = 48) = True := eq_true (UInt8.toNat_inj.1 h48)
        have hs0 : (s = []) = True := eq_true (hw h48)
        (refine Fun.of_body Tryd.func113 rfl (by simp) fun Γ hn => ?_); simp only [entry, List.zipIdx_cons, List.zipIdx_nil, List.map_cons, List.map_nil, Nat.zero_add, Tryd.ntmps113]
        repeat' (first
    | (refine H_cons ?_; simp [h1', h3', h48', hc48, hs0])
    | (refine H_nil ?_; simp [h1', h3', h48', hc48, hs0])
    | (refine V_sseq ?_; simp [h1', h3', h48', hc48, hs0])
    | (refine V_scond ?_; simp [h1', h3', h48', hc48, hs0])
    | (refine V_sblock ?_; simp [h1', h3', h48', hc48, hs0])
    | (refine V_skip ?_; simp only [RunK])
    | (refine CallP.fun_ (hsp) (by first | rfl | fail) (by first | assumption | (simp; done) | fail) (by first | (simp [h1', h3', h48', hc48, hs0]; done) | (simp [h1', h3', h48', hc48, hs0]; rfl) | fail) (by first | (simp; done) | fail) (fun d hd => ?_); subst hd; (try simp [h1', h3', h48', hc48, hs0]))
    | fail)
        refine V_loopF (α := { i : Nat // i ≤ (c :: s).length }) [0, 30] (fun i => [(4, .u (.int .i64 (digitsV ((c :: s).take i.1)))), (31, .u (.int .i64 i.1))]) (fun i => (c :: s).length - i.1) ⟨0, by omega⟩ ?_ ?_
        · exact (Wk.cut rfl (by simp [hn, St.lp]) (by simp [wkO, St.lp, getK_cons, getK, Ob.under, D.under, under_rowsD, under_entD, digitsV]) (by simp [wkU, St.lp, keepE, getK_cons, getK, D.under, digitsV]) (by simp [wkE, St.lp, keepE, getK_cons, getK, digitsV] <;> (try (intros; simp_all; done)) <;> (try (intros; omega)) <;> (try grind)))
        rintro ⟨i, hi⟩
        simp [St.lp, St.only, keepE, getK_cons, getK]
        rcases hx : (c :: s)[i]? with _ | a
        · have hge : (c :: s).length ≤ i := by simpa using hx
          obtain rfl : i = (c :: s).length := by omega
          rw [List.take_length]
          have hge2 : ¬ ((c :: s).length : Int) < s.length + 1 := by simp
          by_cases hb : 1099511627776 < digitsV (c :: s)
          · repeat' (first
    | (refine H_cons ?_; simp [hb, hge2])
    | (refine H_nil ?_; simp [hb, hge2])
    | (refine V_sseq ?_; simp [hb, hge2])
    | (refine V_scond ?_; simp [hb, hge2])
    | (refine V_ret ?_; simp only [RunK])
    | (refine V_exit ?_; simp [RunK])
    | fail)
            (refine EndOK.val (.inr rfl) ?_; simp [resD, oneOrTup, pureD, Tryd.results113])
            try simp [hb]
          · repeat' (first
    | (refine H_cons ?_; simp [hb, hge2])
    | (refine H_nil ?_; simp [hb, hge2])
    | (refine V_sseq ?_; simp [hb, hge2])
    | (refine V_scond ?_; simp [hb, hge2])
    | (refine V_ret ?_; simp only [RunK])
    | (refine V_skip ?_; simp only [RunK])
    | (refine V_exit ?_; simp [RunK])
    | fail)
            (refine EndOK.val (.inr rfl) ?_; simp [resD, oneOrTup, pureD, Tryd.results113])
            try simp [hb]
        · have hlt : i < (c :: s).length := (List.getElem?_eq_some_iff.1 hx).1
          have hlt2 : (i : Int) < s.length + 1 := by simp at hlt; omega
          have hd := hall a (List.mem_of_getElem? hx)
          simp only [isDigit, Bool.and_eq_true, decide_eq_true_eq] at hd
          have hv := hval i hi
          have hv2 := hval (i + 1) hlt
          have hsn : digitsV ((c :: s).take (i + 1)) = 10 * digitsV ((c :: s).take i) + ((a.toNat : Int) - 48) := by
            rw [List.take_succ, hx]; exact digitsV_snoc _ _
          generalize digitsV ((c :: s).take i) = dv at hv hsn
          have hsn2 := hsn.symm
          repeat' (first
    | (refine H_cons ?_; simp [hx, hlt2, hsn2])
    | (refine H_nil ?_; simp [hx, hlt2, hsn2])
    | (refine ⟨by omega, ?_⟩)
    | (refine V_sseq ?_; simp [hx, hlt2, hsn2])
    | (refine V_sregion ?_; simp [hx, hlt2, hsn2])
    | (refine V_skip ?_; simp only [RunK])
    | fail)
          refine LoopW.next ⟨i + 1, hlt⟩ (by simp at hlt; simp; omega) ?_
          exact (Wk.cut rfl (by simp [hn, St.lp]) (by simp [wkO, St.lp, getK_cons, getK, Ob.under, D.under, under_rowsD, under_entD, hsn]) (by simp [wkU, St.lp, keepE, getK_cons, getK, D.under, hsn]) (by simp [wkE, St.lp, keepE, getK_cons, getK, hsn] <;> (try (intros; simp_all; done)) <;> (try (intros; omega)) <;> (try grind)))
      · (refine Fun.of_body Tryd.func113 rfl (by simp) fun Γ hn => ?_); simp only [entry, List.zipIdx_cons, List.zipIdx_nil, List.map_cons, List.map_nil, Nat.zero_add, Tryd.ntmps113]
        repeat' (first
    | (refine H_cons ?_; simp [h1', h3', h48])
    | (refine H_nil ?_; simp [h1', h3', h48])
    | (refine ⟨by omega, ?_⟩)
    | (refine V_sseq ?_; simp [h1', h3', h48])
    | (refine V_scond ?_; simp [h1', h3', h48])
    | (refine V_sblock ?_; simp [h1', h3', h48])
    | (refine V_skip ?_; simp only [RunK])
    | (intro hc <;> (try (exfalso; omega)))
    | (refine CallP.fun_ (hsp) (by first | rfl | fail) (by first | assumption | (simp; done) | fail) (by first | (simp [h1', h3', h48]; done) | (simp [h1', h3', h48]; rfl) | fail) (by first | (simp; done) | fail) (fun d hd => ?_); subst hd; (try simp [h1', h3', h48]))
    | fail)
        refine V_loopF (α := { i : Nat // i ≤ (c :: s).length }) [0, 30] (fun i => [(4, .u (.int .i64 (digitsV ((c :: s).take i.1)))), (31, .u (.int .i64 i.1))]) (fun i => (c :: s).length - i.1) ⟨0, by omega⟩ ?_ ?_
        · exact (Wk.cut rfl (by simp [hn, St.lp]) (by simp [wkO, St.lp, getK_cons, getK, Ob.under, D.under, under_rowsD, under_entD, digitsV]) (by simp [wkU, St.lp, keepE, getK_cons, getK, D.under, digitsV]) (by simp [wkE, St.lp, keepE, getK_cons, getK, digitsV] <;> (try (intros; simp_all; done)) <;> (try (intros; omega)) <;> (try grind)))
        rintro ⟨i, hi⟩
        simp [St.lp, St.only, keepE, getK_cons, getK]
        rcases hx : (c :: s)[i]? with _ | a
        · have hge : (c :: s).length ≤ i := by simpa using hx
          obtain rfl : i = (c :: s).length := by omega
          rw [List.take_length]
          have hge2 : ¬ ((c :: s).length : Int) < s.length + 1 := by simp
          by_cases hb : 1099511627776 < digitsV (c :: s)
          · repeat' (first
    | (refine H_cons ?_; simp [hb, hge2])
    | (refine H_nil ?_; simp [hb, hge2])
    | (refine V_sseq ?_; simp [hb, hge2])
    | (refine V_scond ?_; simp [hb, hge2])
    | (refine V_ret ?_; simp only [RunK])
    | (refine V_exit ?_; simp [RunK])
    | fail)
            (refine EndOK.val (.inr rfl) ?_; simp [resD, oneOrTup, pureD, Tryd.results113])
            try simp [hb]
          · repeat' (first
    | (refine H_cons ?_; simp [hb, hge2])
    | (refine H_nil ?_; simp [hb, hge2])
    | (refine V_sseq ?_; simp [hb, hge2])
    | (refine V_scond ?_; simp [hb, hge2])
    | (refine V_ret ?_; simp only [RunK])
    | (refine V_skip ?_; simp only [RunK])
    | (refine V_exit ?_; simp [RunK])
    | fail)
            (refine EndOK.val (.inr rfl) ?_; simp [resD, oneOrTup, pureD, Tryd.results113])
            try simp [hb]
        · have hlt : i < (c :: s).length := (List.getElem?_eq_some_iff.1 hx).1
          have hlt2 : (i : Int) < s.length + 1 := by simp at hlt; omega
          have hd := hall a (List.mem_of_getElem? hx)
          simp only [isDigit, Bool.and_eq_true, decide_eq_true_eq] at hd
          have hv := hval i hi
          have hv2 := hval (i + 1) hlt
          have hsn : digitsV ((c :: s).take (i + 1)) = 10 * digitsV ((c :: s).take i) + ((a.toNat : Int) - 48) := by
            rw [List.take_succ, hx]; exact digitsV_snoc _ _
          generalize digitsV ((c :: s).take i) = dv at hv hsn
          have hsn2 := hsn.symm
          repeat' (first
    | (refine H_cons ?_; simp [hx, hlt2, hsn2])
    | (refine H_nil ?_; simp [hx, hlt2, hsn2])
    | (refine ⟨by omega, ?_⟩)
    | (refine V_sseq ?_; simp [hx, hlt2, hsn2])
    | (refine V_sregion ?_; simp [hx, hlt2, hsn2])
    | (refine V_skip ?_; simp only [RunK])
    | fail)
          refine LoopW.next ⟨i + 1, hlt⟩ (by simp at hlt; simp; omega) ?_
          exact (Wk.cut rfl (by simp [hn, St.lp]) (by simp [wkO, St.lp, getK_cons, getK, Ob.under, D.under, under_rowsD, under_entD, hsn]) (by simp [wkU, St.lp, keepE, getK_cons, getK, D.under, hsn]) (by simp [wkE, St.lp, keepE, getK_cons, getK, hsn] <;> (try (intros; simp_all; done)) <;> (try (intros; omega)) <;> (try grind)))
    exact hloop h2'
end Go.Proofs.YtfcopibncpkdoaaDoor
