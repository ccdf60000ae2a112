/- Shares; what is known of names. -/
import Derived.Test.YtehlmagdlkcifaaUg
set_option linter.all false
set_option maxRecDepth 100000
set_option maxHeartbeats 8000000
namespace Go.Proofs.Ytehlmagdlkcifaa
open Go Go.VL
attribute [local simp] hcons hstep evPure opd uOf putOK St.put St.at getK binD binI binS binB nilD aggD eqUs cmpK lookD lookR rangeD nextD entryD keyD valU keyU lookK mkV entD_nil lookK_entD updK_entD1 updK_entD2 updK_entD3 allUE allUE_entD makeMapD mapUpdD mapEff updK valM Key.kk shiftI arith unD convD pickD loadD cellsAt fieldAddrD fieldD indexAddrD indexD sliceD cutD lenD minmaxD nilCheckD buildD fillD cellsD isOne ones setAll mkAgg allU allocD boxD storeD St.add buildSliceD appendD rowsOf makeD setOb getK_setOb getK_del getK_cons stripL strip guardTmp entry chunks zcells valD argsV argsW argW argU1 argU0 argsU0 argsU1 calleeOf scalarD scalarU delAll effD St.effS RK_seq RK_seq_ret RK_seq_exit RK_blk RK_blk_ret RK_blk_exit RK_loop RK_loop_ret RK_loop_exit RK_done vs_seq vs_block vs_skip vs_label vs_exit vs_ret vs_cond vs_region vs_loop vs_draw vs_range vs_scope applyW mkD rdIds lentIds callOf calleeOf freeOp D.ids Op.operands Call.operands isEffOp IntKind.bits allU2 allU2_append List.take_of_length_le List.range_succ
attribute [local irreducible] V G H HD HD2 RunK Eff CallP CallV EndOK Fun Ret FinOK LoopI LoopW EndW
theorem share_fun (g : GM) (m : LM) : ∀ (d : Nat) (e : Exp), rightB d e = true → Fun Try.prog 42 [.u (jU g m), eagg e] (· = .u (.bool (shareS (sF m) e)))
  | 0, e, h => by simp [rightB] at h
  | d + 1, e, h => by
    obtain ⟨h1, h2, h3, h4⟩ := right_args h
    rw [shareS_eq]
    have hm := look_m m e.s
    by_cases h0 : e.op = 0
    · rw [if_pos h0]
      (refine Fun.of_body Try.func42 rfl (by simp) fun Γ hn => ?_); simp only [entry, List.zipIdx_cons, List.zipIdx_nil, List.map_cons, List.map_nil, Nat.zero_add, Try.ntmps42]
      simp only [eagg, jU]
      repeat' (first
    | (refine H_cons ?_; simp [h0])
    | (refine H_nil ?_; simp [h0])
    | (refine V_sseq ?_; simp [h0])
    | (refine V_scond ?_; simp [h0])
    | (refine V_sblock ?_; simp [h0])
    | (refine V_ret ?_; simp only [RK_seq, RK_seq_ret, RK_seq_exit, RK_blk, RK_blk_ret, RK_blk_exit, RK_loop, RK_loop_ret, RK_loop_exit, RK_done])
    | fail)
      (refine EndOK.val (.inr rfl) ?_; simp [resD, oneOrTup, pureD, Try.results42])
    rw [if_neg h0]
    by_cases hnm : e.op = 1
    · rw [if_pos hnm]
      cases hma : asc m e.s with
      | some q =>
        rw [hma] at hm
        simp only [Option.map_some] at hm
        (refine Fun.of_body Try.func42 rfl (by simp) fun Γ hn => ?_); simp only [entry, List.zipIdx_cons, List.zipIdx_nil, List.map_cons, List.map_nil, Nat.zero_add, Try.ntmps42]
        simp only [eagg, jU]
        repeat' (first
    | (refine H_cons ?_; simp [h0, hnm, hm])
    | (refine HD_cons ?_; simp [h0, hnm, hm])
    | (refine H_nil ?_; simp [h0, hnm, hm])
    | (refine V_sseq ?_; simp [h0, hnm, hm])
    | (refine V_scond ?_; simp [h0, hnm, hm])
    | (refine HD_nil ?_)
    | (refine hk _ ?_; clear hk k; simp only [RK_seq, RK_seq_ret, RK_seq_exit, RK_blk, RK_blk_ret, RK_blk_exit, RK_loop, RK_loop_ret, RK_loop_exit, RK_done])
    | (refine V_drawV rfl (by kernel_rfl) (by kernel_rfl) fun k hk => ?_; simp [h0, hnm, hm])
    | (refine V_sblock ?_; simp [h0, hnm, hm])
    | (refine V_ret ?_; simp only [RK_seq, RK_seq_ret, RK_seq_exit, RK_blk, RK_blk_ret, RK_blk_exit, RK_loop, RK_loop_ret, RK_loop_exit, RK_done])
    | fail)
        (refine EndOK.val (.inr rfl) ?_; simp [resD, oneOrTup, pureD, Try.results42])
        simp [sF, hma]
      | none =>
        rw [hma] at hm
        simp only [Option.map_none] at hm
        (refine Fun.of_body Try.func42 rfl (by simp) fun Γ hn => ?_); simp only [entry, List.zipIdx_cons, List.zipIdx_nil, List.map_cons, List.map_nil, Nat.zero_add, Try.ntmps42]
        simp only [eagg, jU]
        repeat' (first
    | (refine H_cons ?_; simp [h0, hnm, hm])
    | (refine HD_cons ?_; simp [h0, hnm, hm])
    | (refine H_nil ?_; simp [h0, hnm, hm])
    | (refine V_sseq ?_; simp [h0, hnm, hm])
    | (refine V_scond ?_; simp [h0, hnm, hm])
    | (refine HD_nil ?_)
    | (refine hk _ ?_; clear hk k; simp only [RK_seq, RK_seq_ret, RK_seq_exit, RK_blk, RK_blk_ret, RK_blk_exit, RK_loop, RK_loop_ret, RK_loop_exit, RK_done])
    | (refine V_drawV rfl (by kernel_rfl) (by kernel_rfl) fun k hk => ?_; simp [h0, hnm, hm])
    | (refine V_sblock ?_; simp [h0, hnm, hm])
    | (refine V_ret ?_; simp only [RK_seq, RK_seq_ret, RK_seq_exit, RK_blk, RK_blk_ret, RK_blk_exit, RK_loop, RK_loop_ret, RK_loop_exit, RK_done])
    | fail)
        (refine EndOK.val (.inr rfl) ?_; simp [resD, oneOrTup, pureD, Try.results42])
        simp [sF, hma]
    rw [if_neg hnm]
    have hr := h4 h0 hnm
    by_cases hA : e.op = 2 ∨ e.op = 3 ∨ e.op = 6 ∨ e.op = 7
    · rw [if_pos hA]
      have hl : e.args.length = 2 := by
        rcases hA with ha | ha | ha | ha <;> rw [ha] at h1 <;> simp [operandsI] at h1 <;> omega
      obtain ⟨a, b, hab⟩ : ∃ a b, e.args = [a, b] := by
        match hq : e.args, hl with
        | [a, b], _ => exact ⟨a, b, rfl⟩
      have h5 := share_fun g m d a (hr a (by simp [hab]))
      simp only [eagg, jU] at h5
      rw [hab, shareN]
      rcases hA with ha | ha | ha | ha
      all_goals
        (refine Fun.of_body Try.func42 rfl (by simp) fun Γ hn => ?_); simp only [entry, List.zipIdx_cons, List.zipIdx_nil, List.map_cons, List.map_nil, Nat.zero_add, Try.ntmps42]
        simp only [eagg, jU]
        repeat' (first
    | (refine H_cons ?_; simp [ha, hab, a.row_eq, b.row_eq])
    | (refine H_nil ?_; simp [ha, hab, a.row_eq, b.row_eq])
    | (refine V_sseq ?_; simp [ha, hab, a.row_eq, b.row_eq])
    | (refine V_scond ?_; simp [ha, hab, a.row_eq, b.row_eq])
    | (refine V_sblock ?_; simp [ha, hab, a.row_eq, b.row_eq])
    | (refine V_sregion ?_; simp [ha, hab, a.row_eq, b.row_eq])
    | (refine V_ret ?_; simp only [RK_seq, RK_seq_ret, RK_seq_exit, RK_blk, RK_blk_ret, RK_blk_exit, RK_loop, RK_loop_ret, RK_loop_exit, RK_done])
    | (refine V_skip ?_; simp only [RK_seq, RK_seq_ret, RK_seq_exit, RK_blk, RK_blk_ret, RK_blk_exit, RK_loop, RK_loop_ret, RK_loop_exit, RK_done])
    | (refine CallP.fun_ (h5) (by first | rfl | fail) (by first | assumption | (simp; done) | fail) (by first | (simp [ha, hab, a.row_eq, b.row_eq]; done) | (simp [ha, hab, a.row_eq, b.row_eq]; rfl) | fail) (by first | (simp; done) | fail) (fun d hd => ?_); subst hd; (try simp [ha, hab, a.row_eq, b.row_eq]))
    | fail)
        (refine EndOK.val (.inr rfl) ?_; simp [resD, oneOrTup, pureD, Try.results42])
    rw [if_neg hA]
    by_cases hB : e.op = 4
    · rw [if_pos hB]
      have hl : e.args.length = 2 := by rw [hB] at h1; simp [operandsI] at h1; omega
      obtain ⟨a, b, hab⟩ : ∃ a b, e.args = [a, b] := by
        match hq : e.args, hl with
        | [a, b], _ => exact ⟨a, b, rfl⟩
      have h5 := share_fun g m d a (hr a (by simp [hab]))
      have h6 := share_fun g m d b (hr b (by simp [hab]))
      simp only [eagg, jU] at h5 h6
      rw [hab, shareN, shareN, shareN]
      generalize shareS (sF m) a = x1 at h5 ⊢
      generalize shareS (sF m) b = x2 at h6 ⊢
      (refine Fun.of_body Try.func42 rfl (by simp) fun Γ hn => ?_); simp only [entry, List.zipIdx_cons, List.zipIdx_nil, List.map_cons, List.map_nil, Nat.zero_add, Try.ntmps42]
      simp only [eagg, jU]
      repeat' (first
    | (refine H_cons ?_; simp [hB, hab, a.row_eq, b.row_eq])
    | (refine H_nil ?_; simp [hB, hab, a.row_eq, b.row_eq])
    | (refine V_sseq ?_; simp [hB, hab, a.row_eq, b.row_eq])
    | (refine V_scond ?_; simp [hB, hab, a.row_eq, b.row_eq])
    | (refine V_sblock ?_; simp [hB, hab, a.row_eq, b.row_eq])
    | (refine V_sregion ?_; simp [hB, hab, a.row_eq, b.row_eq])
    | (refine V_ret ?_; simp only [RK_seq, RK_seq_ret, RK_seq_exit, RK_blk, RK_blk_ret, RK_blk_exit, RK_loop, RK_loop_ret, RK_loop_exit, RK_done])
    | (refine ⟨fun hc => ?_, fun hc => ?_⟩ <;> (try (exfalso; omega)))
    | (refine CallP.fun_ (h5) (by first | rfl | fail) (by first | assumption | (simp; done) | fail) (by first | (simp [hB, hab, a.row_eq, b.row_eq]; done) | (simp [hB, hab, a.row_eq, b.row_eq]; rfl) | fail) (by first | (simp; done) | fail) (fun d hd => ?_); subst hd; (try simp [hB, hab, a.row_eq, b.row_eq]))
    | (refine CallP.fun_ (h6) (by first | rfl | fail) (by first | assumption | (simp; done) | fail) (by first | (simp [hB, hab, a.row_eq, b.row_eq]; done) | (simp [hB, hab, a.row_eq, b.row_eq]; rfl) | fail) (by first | (simp; done) | fail) (fun d hd => ?_); subst hd; (try simp [hB, hab, a.row_eq, b.row_eq]))
    | fail)
      all_goals
        (refine EndOK.val (.inr rfl) ?_; simp [resD, oneOrTup, pureD, Try.results42])
      all_goals (simp_all; done)
    rw [if_neg hB]
    by_cases hC : e.op = 13
    · rw [if_pos hC]
      have hl : e.args.length = 3 := by rw [hC] at h1; simp [operandsI] at h1; omega
      obtain ⟨a, b, c, hab⟩ : ∃ a b c, e.args = [a, b, c] := by
        match hq : e.args, hl with
        | [a, b, c], _ => exact ⟨a, b, c, rfl⟩
      have h5 := share_fun g m d b (hr b (by simp [hab]))
      simp only [eagg, jU] at h5
      rw [hab, shareN, shareN]
      (refine Fun.of_body Try.func42 rfl (by simp) fun Γ hn => ?_); simp only [entry, List.zipIdx_cons, List.zipIdx_nil, List.map_cons, List.map_nil, Nat.zero_add, Try.ntmps42]
      simp only [eagg, jU]
      repeat' (first
    | (refine H_cons ?_; simp [hC, hab, a.row_eq, b.row_eq, c.row_eq])
    | (refine H_nil ?_; simp [hC, hab, a.row_eq, b.row_eq, c.row_eq])
    | (refine V_sseq ?_; simp [hC, hab, a.row_eq, b.row_eq, c.row_eq])
    | (refine V_scond ?_; simp [hC, hab, a.row_eq, b.row_eq, c.row_eq])
    | (refine V_sblock ?_; simp [hC, hab, a.row_eq, b.row_eq, c.row_eq])
    | (refine V_sregion ?_; simp [hC, hab, a.row_eq, b.row_eq, c.row_eq])
    | (refine V_ret ?_; simp only [RK_seq, RK_seq_ret, RK_seq_exit, RK_blk, RK_blk_ret, RK_blk_exit, RK_loop, RK_loop_ret, RK_loop_exit, RK_done])
    | (refine CallP.fun_ (h5) (by first | rfl | fail) (by first | assumption | (simp; done) | fail) (by first | (simp [hC, hab, a.row_eq, b.row_eq, c.row_eq]; done) | (simp [hC, hab, a.row_eq, b.row_eq, c.row_eq]; rfl) | fail) (by first | (simp; done) | fail) (fun d hd => ?_); subst hd; (try simp [hC, hab, a.row_eq, b.row_eq, c.row_eq]))
    | fail)
      (refine EndOK.val (.inr rfl) ?_; simp [resD, oneOrTup, pureD, Try.results42])
    rw [if_neg hC]
    have hD : ¬ e.op = 2 ∧ ¬ e.op = 3 ∧ ¬ e.op = 6 ∧ ¬ e.op = 7 := by omega
    (refine Fun.of_body Try.func42 rfl (by simp) fun Γ hn => ?_); simp only [entry, List.zipIdx_cons, List.zipIdx_nil, List.map_cons, List.map_nil, Nat.zero_add, Try.ntmps42]
    simp only [eagg, jU]
    repeat' (first
    | (refine H_cons ?_; simp [h0, hnm, hB, hC, hD.1, hD.2.1, hD.2.2.1, hD.2.2.2])
    | (refine H_nil ?_; simp [h0, hnm, hB, hC, hD.1, hD.2.1, hD.2.2.1, hD.2.2.2])
    | (refine V_sseq ?_; simp [h0, hnm, hB, hC, hD.1, hD.2.1, hD.2.2.1, hD.2.2.2])
    | (refine V_scond ?_; simp [h0, hnm, hB, hC, hD.1, hD.2.1, hD.2.2.1, hD.2.2.2])
    | (refine V_sblock ?_; simp [h0, hnm, hB, hC, hD.1, hD.2.1, hD.2.2.1, hD.2.2.2])
    | (refine V_sregion ?_; simp [h0, hnm, hB, hC, hD.1, hD.2.1, hD.2.2.1, hD.2.2.2])
    | (refine V_ret ?_; simp only [RK_seq, RK_seq_ret, RK_seq_exit, RK_blk, RK_blk_ret, RK_blk_exit, RK_loop, RK_loop_ret, RK_loop_exit, RK_done])
    | (refine V_skip ?_; simp only [RK_seq, RK_seq_ret, RK_seq_exit, RK_blk, RK_blk_ret, RK_blk_exit, RK_loop, RK_loop_ret, RK_loop_exit, RK_done])
    | fail)
    (refine EndOK.val (.inr rfl) ?_; simp [resD, oneOrTup, pureD, Try.results42])
theorem nj1_fun (l : Let) : Fun Try.prog 53 (lagg l :: [].map .u) (· = .u (.bool (!rightB 12 l.body))) := by
  have h1 := rightExp_fun l.body
  simp only [lagg, List.map_nil, eagg] at h1 ⊢
  (refine Fun.of_body Try.func53 rfl (by simp) fun Γ hn => ?_); simp only [entry, List.zipIdx_cons, List.zipIdx_nil, List.map_cons, List.map_nil, Nat.zero_add, Try.ntmps53]
  repeat' (first
    | (refine H_cons ?_; simp)
    | (refine H_nil ?_; simp)
    | (refine V_sseq ?_; simp)
    | (refine V_ret ?_; simp only [RK_seq, RK_seq_ret, RK_seq_exit, RK_blk, RK_blk_ret, RK_blk_exit, RK_loop, RK_loop_ret, RK_loop_exit, RK_done])
    | (refine CallP.fun_ (h1) (by first | rfl | fail) (by first | assumption | (simp; done) | fail) (by first | (simp; done) | (simp; rfl) | fail) (by first | (simp; done) | fail) (fun d hd => ?_); subst hd; (try simp))
    | fail)
  (refine EndOK.val (.inr rfl) ?_; simp [resD, oneOrTup, pureD, Try.results53])
def varsU (l : List Var) : U := .sl (l.map fun v => [.str v.name, .int .i64 v.unit, .int .i64 v.n])
/-- What the given names mean. -/
def gOf (names : List Var) : GM := names.foldl (fun g v => if asc g v.name = none then ascPut g v.name v.unit else g) []
/-- What the lets mean. -/
def mOf (g : GM) (lets : List Let) : LM := lets.foldl (fun m l => ascPut m l.name ((unitS (gF g) (mF m) l.body).1, (unitS (gF g) (mF m) l.body).2, shareS (sF m) l.body)) []
def unitOK (v : Var) : Bool := decide (0 ≤ v.unit) && decide (v.unit < 5)
def rightAll (lets : List Let) (e : Exp) : Bool := decide (lets.length ≤ 20) && rightB 12 e && !lets.any (fun l => !rightB 12 l.body)
def okJ (lets : List Let) (names : List Var) (e : Exp) : Bool := rightAll lets e && names.all unitOK
def judgeD (lets : List Let) (names : List Var) (e : Exp) : D := if okJ lets names e = true then .tup [.u (jU (gOf names) (mOf (gOf names) lets)), .u (.bool true)] else .tup [.u (.oth (.pointer none)), .u (.bool false)]
theorem upd_g (g : GM) (x : List UInt8) (u : Int) : updK (gmap g) (.s x) [U.int .i64 u] = gmap (ascPut g x u) := updK_asc (fun u : Int => [U.int .i64 u]) x u g
theorem upd_m (g : LM) (x : List UInt8) (u e : Int) (b : Bool) : updK (lmap g) (.s x) [U.int .i64 u, .int .i64 e, .bool b] = lmap (ascPut g x (u, e, b)) := updK_asc (fun q : Int × Int × Bool => [U.int .i64 q.1, .int .i64 q.2.1, .bool q.2.2]) x (u, e, b) g
theorem foldl_succ {α β : Type} (f : β → α → β) (b : β) {l : List α} {i : Nat} {x : α} (h : l[i]? = some x) : (l.take (i + 1)).foldl f b = f ((l.take i).foldl f b) x := by
  obtain ⟨hi, rfl⟩ := List.getElem?_eq_some_iff.1 h
  rw [List.take_succ_eq_append_getElem hi, List.foldl_append]
  rfl
theorem gOf_succ {names : List Var} {i : Nat} {v : Var} (h : names[i]? = some v) : gOf (names.take (i + 1)) = if asc (gOf (names.take i)) v.name = none then ascPut (gOf (names.take i)) v.name v.unit else gOf (names.take i) := foldl_succ _ _ h
theorem mOf_succ {g : GM} {lets : List Let} {i : Nat} {l : Let} (h : lets[i]? = some l) : mOf g (lets.take (i + 1)) = ascPut (mOf g (lets.take i)) l.name ((unitS (gF g) (mF (mOf g (lets.take i))) l.body).1, (unitS (gF g) (mF (mOf g (lets.take i))) l.body).2, shareS (sF (mOf g (lets.take i))) l.body) := foldl_succ _ _ h
theorem judge_fun (lets : List Let) (names : List Var) (e : Exp) : Fun Try.prog 34 [.u (letsU lets), .u (varsU names), eagg e] (· = judgeD lets names e) := by
  have h1 := rightExp_fun e
  have h2 := containsL_fun lets 53 [] _ (fun x _ => nj1_fun x) (by simp) (fun _ => rfl) (fun _ => rfl)
  simp only [List.map_nil, letsU, eagg] at h1 h2
  generalize hre : rightB 12 e = re at h1
  generalize hrl : (lets.any fun l => !rightB 12 l.body) = rl at h2
  have hok0 : okJ lets names e = (decide (lets.length ≤ 20) && re && !rl && names.all unitOK) := by rw [okJ, rightAll, hre, hrl]
  have hre' := hre
  have hrl' := hrl
  clear hre hrl
  unfold judgeD
  generalize okJ lets names e = K at hok0 ⊢
  (refine Fun.of_bodyW Try.func34 rfl (by simp) fun Γ hn => ?_); simp only [entry, List.zipIdx_cons, List.zipIdx_nil, List.map_cons, List.map_nil, Nat.zero_add, Try.ntmps34]
  simp only [eagg, letsU, varsU]
  refine V_len (x := 0) rfl fun hl0 => ?_
  refine V_len (x := 1) rfl fun hl1 => ?_
  simp only [List.length_map] at hl0 hl1
  repeat' (first
    | (refine H_cons ?_; simp)
    | (refine H_nil ?_; simp)
    | (refine V_sseq ?_; simp)
    | (refine V_scond ?_; simp)
    | (refine V_sblock ?_; simp)
    | (refine V_ret ?_; simp only [RK_seq, RK_seq_ret, RK_seq_exit, RK_blk, RK_blk_ret, RK_blk_exit, RK_loop, RK_loop_ret, RK_loop_exit, RK_done])
    | (refine V_skip ?_; simp only [RK_seq, RK_seq_ret, RK_seq_exit, RK_blk, RK_blk_ret, RK_blk_exit, RK_loop, RK_loop_ret, RK_loop_exit, RK_done])
    | (refine ⟨fun hc => ?_, fun hc => ?_⟩ <;> (try (exfalso; omega)))
    | (refine CallP.fun_ (h1) (by first | rfl | fail) (by first | assumption | (simp; done) | fail) (by first | (simp; done) | (simp; rfl) | fail) (by first | (simp; done) | fail) (fun d hd => ?_); subst hd; (try simp))
    | (refine CallP.fun_ (h2) (by first | rfl | fail) (by first | assumption | (simp; done) | fail) (by first | (simp; done) | (simp; rfl) | fail) (by first | (simp; done) | fail) (fun d hd => ?_); subst hd; (try simp))
    | fail)
  all_goals try (refine EndW.here ?_; have hKf : K = false := (by first | (rw [hok0]; clear h1 h2 hok0 hre' hrl'; simp; intros; simp_all; done) | (rw [hok0]; clear h1 h2 hok0 hre' hrl'; simp; intros; omega) | fail); subst hKf; (refine EndOK.val (.inr rfl) ?_; simp [resD, oneOrTup, pureD, Try.results34]); done)
  refine V_loopO (α := { i : Nat // i ≤ names.length ∧ ∀ v ∈ names.take i, unitOK v = true }) [0, 8, 33, 34] (fun i => [(35, .u (.int .i64 i.1))])
    (fun i => [(3, .box [.mp 1, .mp 2]), (2, .map .s true []), (1, .map .s false (entD (gmap (gOf (names.take i.1))))), (0, .box [.u (.int .i64 e.op), .u (.int .i64 e.n), .u (.int .i64 e.unit), .u (.str e.s), .u (.sl (e.args.map Exp.row))])]) 4
    (fun i => names.length - i.1) ⟨0, by omega, by simp⟩ ?_ ?_
  · exact (Wk.cut rfl (by simp [hn]) (by simp [wkO, St.lp, getK_cons, getK, Ob.under, D.under, under_rowsD, under_entD, gOf, gmap, entD_nil, Ob.under]) (by simp [wkU, St.lp, keepE, getK_cons, getK, D.under, gOf, gmap, entD_nil, Ob.under]) (by simp [wkE, St.lp, keepE, getK_cons, getK, gOf, gmap, entD_nil, Ob.under] <;> (try (intros; simp_all; done)) <;> (try (intros; omega)) <;> (try grind)))
  rintro ⟨i, hi, hb⟩
  simp [St.lp, St.only, keepE, getK_cons, getK]
  rcases hx : names[i]? with _ | v
  · have hge : names.length ≤ i := by simpa using hx
    obtain rfl : i = names.length := by omega
    rw [List.take_length] at hb
    have hall : names.all unitOK = true := by simpa [List.all_eq_true] using hb
    repeat' (first
    | (refine H_cons ?_; simp [hx])
    | (refine H_nil ?_; simp [hx])
    | (refine V_sseq ?_; simp [hx])
    | (refine V_sblock ?_; simp [hx])
    | (refine V_exit ?_; simp [RK_seq, RK_seq_ret, RK_seq_exit, RK_blk, RK_blk_ret, RK_blk_exit, RK_loop, RK_loop_ret, RK_loop_exit, RK_done])
    | fail)
    refine V_loopO (α := { i : Nat // i ≤ lets.length }) [8, 68, 69] (fun i => [(70, .u (.int .i64 i.1))])
      (fun i => [(3, .box [.mp 1, .mp 2]), (2, .map .s true (entD (lmap (mOf (gOf names) (lets.take i.1))))), (1, .map .s false (entD (gmap (gOf names)))), (0, .box [.u (.int .i64 e.op), .u (.int .i64 e.n), .u (.int .i64 e.unit), .u (.str e.s), .u (.sl (e.args.map Exp.row))])]) 4
      (fun i => lets.length - i.1) ⟨0, by omega⟩ ?_ ?_
    · exact (Wk.cut rfl (by simp [hn]) (by simp [wkO, St.lp, getK_cons, getK, Ob.under, D.under, under_rowsD, under_entD, mOf, lmap, entD_nil, Ob.under]) (by simp [wkU, St.lp, keepE, getK_cons, getK, D.under, mOf, lmap, entD_nil, Ob.under]) (by simp [wkE, St.lp, keepE, getK_cons, getK, mOf, lmap, entD_nil, Ob.under] <;> (try (intros; simp_all; done)) <;> (try (intros; omega)) <;> (try grind)))
    rintro ⟨k, hk0⟩
    simp [St.lp, St.only, keepE, getK_cons, getK]
    rcases hy : lets[k]? with _ | l
    · have hgk : lets.length ≤ k := by simpa using hy
      obtain rfl : k = lets.length := by omega
      obtain rfl : K = true := by
        rw [hok0, hall]
        have : lets.length ≤ 20 := by omega
        clear h1 h2
        simp_all
      repeat' (first
    | (refine H_cons ?_; simp [hy])
    | (refine H_nil ?_; simp [hy])
    | (refine V_sseq ?_; simp [hy])
    | (refine V_ret ?_; simp only [RK_seq, RK_seq_ret, RK_seq_exit, RK_blk, RK_blk_ret, RK_blk_exit, RK_loop, RK_loop_ret, RK_loop_exit, RK_done])
    | (refine V_exit ?_; simp [RK_seq, RK_seq_ret, RK_seq_exit, RK_blk, RK_blk_ret, RK_blk_exit, RK_loop, RK_loop_ret, RK_loop_exit, RK_done])
    | fail)
      (refine EndW.frzN 2 ?_; simp [frzN, frz1, frz_env, frz_obs, St.frz, St.frzS, frzS, fv, fzVec, fzMap, fzBox, frzObS, frz_entD, frz_rowsD, del, frz, frzOb])
      (refine EndW.frzB 3 ?_; simp [frzB, frz_env, frz_obs, St.frzS, frzS, fv, fzVec, fzMap, fzBox, frzObS, frz_entD, frz_rowsD, del])
      refine EndW.here ?_
      (refine EndOK.val (.inr rfl) ?_; simp [resD, oneOrTup, pureD, Try.results34])
      rfl
    · have hltk : k < lets.length := (List.getElem?_eq_some_iff.1 hy).1
      have hsu := mOf_succ (g := gOf names) hy
      have hrl : rightB 12 l.body = true := by
        have h7 : (lets.any fun l => !rightB 12 l.body) = false := by rw [hrl']; assumption
        rw [List.any_eq_false] at h7
        simpa using h7 l (List.mem_of_getElem? hy)
      have h5 := unit_fun (gOf names) (mOf (gOf names) (lets.take k)) 12 l.body hrl
      have h6 := share_fun (gOf names) (mOf (gOf names) (lets.take k)) 12 l.body hrl
      simp only [eagg, jU] at h5 h6
      repeat' (first
    | (refine H_cons ?_; simp [hy, upd_m])
    | (refine HD2_val rfl ?_; simp [hy, upd_m])
    | (refine HD2_chg rfl ?_; simp [hy, upd_m])
    | (refine H_nil ?_; simp [hy, upd_m])
    | (refine ⟨by omega, ?_⟩)
    | (refine V_sseq ?_; simp [hy, upd_m])
    | (refine HD2_nil (hC _ (by kernel_rfl)) (hk _ ?_); clear hC hk C k; simp only [RK_seq, RK_seq_ret, RK_seq_exit, RK_blk, RK_blk_ret, RK_blk_exit, RK_loop, RK_loop_ret, RK_loop_exit, RK_done])
    | (refine V_drawE rfl (by kernel_rfl) (by kernel_rfl) (by simp [hn]) fun C k hC hk => ?_; simp [hy, upd_m])
    | (refine V_sregion ?_; simp [hy, upd_m])
    | (refine V_skip ?_; simp only [RK_seq, RK_seq_ret, RK_seq_exit, RK_blk, RK_blk_ret, RK_blk_exit, RK_loop, RK_loop_ret, RK_loop_exit, RK_done])
    | (refine ⟨?_, by omega⟩)
    | (intro hc <;> (try (exfalso; omega)))
    | (refine CallP.fun_ (h5) (by first | rfl | fail) (by first | assumption | (simp; done) | fail) (by first | (simp [hy, upd_m]; done) | (simp [hy, upd_m]; rfl) | fail) (by first | (simp; done) | fail) (fun d hd => ?_); subst hd; (try simp [hy, upd_m]))
    | (refine CallV.fun_ (h6) (by first | rfl | fail) (by first | assumption | (simp; done) | fail) (by first | (simp [hy, upd_m]; done) | (simp [hy, upd_m]; rfl) | fail) (by first | (simp; done) | fail) ?_ <;> (try simp [hy, upd_m]))
    | fail)
      refine LoopW.next ⟨k + 1, by omega⟩ (by simp; omega) ?_
      exact (Wk.cut rfl (by simp [hn]) (by simp [wkO, St.lp, getK_cons, getK, Ob.under, D.under, under_rowsD, under_entD, hsu]) (by simp [wkU, St.lp, keepE, getK_cons, getK, D.under, hsu]) (by simp [wkE, St.lp, keepE, getK_cons, getK, hsu] <;> (try (intros; simp_all; done)) <;> (try (intros; omega)) <;> (try grind)))
  · have hlt : i < names.length := (List.getElem?_eq_some_iff.1 hx).1
    have hg := look_g (gOf (names.take i)) v.name
    have hsu := gOf_succ hx
    have hok : unitOK v = (decide (0 ≤ v.unit) && decide (v.unit < 5)) := rfl
    have hbad : unitOK v = false → names.all unitOK = false := fun h => by
      rw [List.all_eq_false]
      exact ⟨v, List.mem_of_getElem? hx, by simp [h]⟩
    cases hga : asc (gOf (names.take i)) v.name with
    | some u =>
      rw [hga] at hg hsu
      simp only [Option.map_some] at hg
      repeat' (first
    | (refine H_cons ?_; simp [hx, hg])
    | (refine HD_cons ?_; simp [hx, hg])
    | (refine H_nil ?_; simp [hx, hg])
    | (refine ⟨by omega, ?_⟩)
    | (refine V_sseq ?_; simp [hx, hg])
    | (refine V_scond ?_; simp [hx, hg])
    | (refine HD_nil ?_)
    | (refine hk _ ?_; clear hk k; simp only [RK_seq, RK_seq_ret, RK_seq_exit, RK_blk, RK_blk_ret, RK_blk_exit, RK_loop, RK_loop_ret, RK_loop_exit, RK_done])
    | (refine V_drawV rfl (by kernel_rfl) (by kernel_rfl) fun k hk => ?_; simp [hx, hg])
    | (refine V_sregion ?_; simp [hx, hg])
    | (refine V_ret ?_; simp only [RK_seq, RK_seq_ret, RK_seq_exit, RK_blk, RK_blk_ret, RK_blk_exit, RK_loop, RK_loop_ret, RK_loop_exit, RK_done])
    | (refine V_skip ?_; simp only [RK_seq, RK_seq_ret, RK_seq_exit, RK_blk, RK_blk_ret, RK_blk_exit, RK_loop, RK_loop_ret, RK_loop_exit, RK_done])
    | (refine ⟨?_, by omega⟩)
    | (refine ⟨fun hc => ?_, fun hc => ?_⟩ <;> (try (exfalso; omega)))
    | (intro hc <;> (try (exfalso; omega)))
    | fail)
      all_goals first
        | (refine LoopW.next ⟨i + 1, by omega, take_succ_all hx hb (by rw [hok]; simp; omega)⟩ (by simp; omega) ?_; exact (Wk.cut rfl (by simp [hn]) (by simp [wkO, St.lp, getK_cons, getK, Ob.under, D.under, under_rowsD, under_entD, hsu]) (by simp [wkU, St.lp, keepE, getK_cons, getK, D.under, hsu]) (by simp [wkE, St.lp, keepE, getK_cons, getK, hsu] <;> (try (intros; simp_all; done)) <;> (try (intros; omega)) <;> (try grind))))
        | (refine EndW.here ?_; have hKf : K = false := (by first | (rw [hok0, hbad (by rw [hok]; simp; omega)]; simp; done) | fail); subst hKf; (refine EndOK.val (.inr rfl) ?_; simp [resD, oneOrTup, pureD, Try.results34]))
    | none =>
      rw [hga] at hg hsu
      simp only [Option.map_none] at hg
      repeat' (first
    | (refine H_cons ?_; simp [hx, hg, upd_g])
    | (refine HD2_val rfl ?_; simp [hx, hg, upd_g])
    | (refine HD_cons ?_; simp [hx, hg, upd_g])
    | (refine HD2_chg rfl ?_; simp [hx, hg, upd_g])
    | (refine H_nil ?_; simp [hx, hg, upd_g])
    | (refine ⟨by omega, ?_⟩)
    | (refine V_sseq ?_; simp [hx, hg, upd_g])
    | (refine V_scond ?_; simp [hx, hg, upd_g])
    | (refine HD2_nil (hC _ (by kernel_rfl)) (hk _ ?_); clear hC hk C k; simp only [RK_seq, RK_seq_ret, RK_seq_exit, RK_blk, RK_blk_ret, RK_blk_exit, RK_loop, RK_loop_ret, RK_loop_exit, RK_done])
    | (refine HD_nil ?_)
    | (refine hk _ ?_; clear hk k; simp only [RK_seq, RK_seq_ret, RK_seq_exit, RK_blk, RK_blk_ret, RK_blk_exit, RK_loop, RK_loop_ret, RK_loop_exit, RK_done])
    | (refine V_drawV rfl (by kernel_rfl) (by kernel_rfl) fun k hk => ?_; simp [hx, hg, upd_g])
    | (refine V_drawE rfl (by kernel_rfl) (by kernel_rfl) (by simp [hn]) fun C k hC hk => ?_; simp [hx, hg, upd_g])
    | (refine V_sregion ?_; simp [hx, hg, upd_g])
    | (refine V_ret ?_; simp only [RK_seq, RK_seq_ret, RK_seq_exit, RK_blk, RK_blk_ret, RK_blk_exit, RK_loop, RK_loop_ret, RK_loop_exit, RK_done])
    | (refine V_skip ?_; simp only [RK_seq, RK_seq_ret, RK_seq_exit, RK_blk, RK_blk_ret, RK_blk_exit, RK_loop, RK_loop_ret, RK_loop_exit, RK_done])
    | (refine ⟨?_, by omega⟩)
    | (refine ⟨fun hc => ?_, fun hc => ?_⟩ <;> (try (exfalso; omega)))
    | (intro hc <;> (try (exfalso; omega)))
    | fail)
      all_goals first
        | (refine LoopW.next ⟨i + 1, by omega, take_succ_all hx hb (by rw [hok]; simp; omega)⟩ (by simp; omega) ?_; exact (Wk.cut rfl (by simp [hn]) (by simp [wkO, St.lp, getK_cons, getK, Ob.under, D.under, under_rowsD, under_entD, hsu]) (by simp [wkU, St.lp, keepE, getK_cons, getK, D.under, hsu]) (by simp [wkE, St.lp, keepE, getK_cons, getK, hsu] <;> (try (intros; simp_all; done)) <;> (try (intros; omega)) <;> (try grind))))
        | (refine EndW.here ?_; have hKf : K = false := (by first | (rw [hok0, hbad (by rw [hok]; simp; omega)]; simp; done) | fail); subst hKf; (refine EndOK.val (.inr rfl) ?_; simp [resD, oneOrTup, pureD, Try.results34]))
end Go.Proofs.Ytehlmagdlkcifaa
