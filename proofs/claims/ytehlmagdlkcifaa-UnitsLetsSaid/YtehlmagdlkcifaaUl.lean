/- The program's units: the unit of an expression, whether it is a share; the given names. -/
import Derived.Test.YtehlmagdlkcifaaUn
import Derived.Test.YtehlmagdlkcifaaVLR
set_option linter.all false
set_option maxRecDepth 100000
set_option maxHeartbeats 8000000
namespace Go.Proofs.Ytehlmagdlkcifaa
open Go Go.VL
attribute [local simp] hcons hstep evPure opd uOf putOK St.put St.at getK binD binI binS binB nilD aggD eqUs cmpK lookD lookR rangeD nextD entryD keyD valU keyU lookK mkV entD_nil lookK_entD updK_entD1 updK_entD2 updK_entD3 allUE allUE_entD makeMapD mapUpdD mapEff updK valM Key.kk shiftI arith unD convD pickD loadD cellsAt fieldAddrD fieldD indexAddrD indexD sliceD cutD lenD minmaxD nilCheckD buildD fillD cellsD isOne ones setAll mkAgg allU allocD boxD storeD St.add buildSliceD appendD rowsOf makeD setOb getK_setOb getK_del getK_cons stripL strip guardTmp entry chunks zcells valD argsV argsW argW argU1 argU0 argsU0 argsU1 calleeOf scalarD scalarU delAll effD St.effS RK_seq RK_seq_ret RK_seq_exit RK_blk RK_blk_ret RK_blk_exit RK_loop RK_loop_ret RK_loop_exit RK_done vs_seq vs_block vs_skip vs_label vs_exit vs_ret vs_cond vs_region vs_loop vs_draw vs_range vs_scope applyW mkD rdIds lentIds callOf calleeOf freeOp D.ids Op.operands Call.operands isEffOp IntKind.bits allU2 allU2_append List.take_of_length_le List.range_succ
attribute [local irreducible] V G H HD HD2 RunK Eff CallP CallV EndOK Fun Ret FinOK LoopI LoopW EndW
def unitP (lets : List Let) (names : List Var) (e : Exp) : Int × Int := if okJ lets names e = true then unitS (gF (gOf names)) (mF (mOf (gOf names) lets)) e else (0, 1)
theorem unitOf_fun (lets : List Let) (names : List Var) (e : Exp) : Fun Try.prog 10 [.u (letsU lets), .u (varsU names), eagg e] (· = .tup [.u (.int .i64 (unitP lets names e).1), .u (.int .i64 (unitP lets names e).2)]) := by
  have h1 := judge_fun lets names e
  unfold unitP
  unfold judgeD at h1
  cases hK : okJ lets names e
  · rw [hK] at h1
    simp only [letsU, varsU, eagg, Bool.false_eq_true, if_false] at h1 ⊢
    (refine Fun.of_body Try.func10 rfl (by simp) fun Γ hn => ?_); simp only [entry, List.zipIdx_cons, List.zipIdx_nil, List.map_cons, List.map_nil, Nat.zero_add, Try.ntmps10]
    repeat' (first
    | (refine H_cons ?_; simp)
    | (refine H_nil ?_; simp)
    | (refine V_sseq ?_; simp)
    | (refine V_scond ?_; simp)
    | (refine V_ret ?_; simp only [RK_seq, RK_seq_ret, RK_seq_exit, RK_blk, RK_blk_ret, RK_blk_exit, RK_loop, RK_loop_ret, RK_loop_exit, RK_done])
    | (refine CallP.fun_ (h1) (by first | rfl | fail) (by first | assumption | (simp; done) | fail) (by first | (simp; done) | (simp; rfl) | fail) (by first | (simp; done) | fail) (fun d hd => ?_); subst hd; (try simp))
    | fail)
    (refine EndOK.val (.inr rfl) ?_; simp [resD, oneOrTup, pureD, Try.results10])
  · rw [hK] at h1
    have hre : rightB 12 e = true := by
      simp only [okJ, Bool.and_eq_true] at hK
      exact (rights_out hK.1).2.1
    have h2 := unit_fun (gOf names) (mOf (gOf names) lets) 12 e hre
    simp only [letsU, varsU, eagg, if_true, jU] at h1 h2 ⊢
    generalize unitS (gF (gOf names)) (mF (mOf (gOf names) lets)) e = r at h2 ⊢
    (refine Fun.of_body Try.func10 rfl (by simp) fun Γ hn => ?_); simp only [entry, List.zipIdx_cons, List.zipIdx_nil, List.map_cons, List.map_nil, Nat.zero_add, Try.ntmps10]
    repeat' (first
    | (refine H_cons ?_; simp)
    | (refine H_nil ?_; simp)
    | (refine V_sseq ?_; simp)
    | (refine V_scond ?_; simp)
    | (refine V_ret ?_; simp only [RK_seq, RK_seq_ret, RK_seq_exit, RK_blk, RK_blk_ret, RK_blk_exit, RK_loop, RK_loop_ret, RK_loop_exit, RK_done])
    | (refine V_skip ?_; simp only [RK_seq, RK_seq_ret, RK_seq_exit, RK_blk, RK_blk_ret, RK_blk_exit, RK_loop, RK_loop_ret, RK_loop_exit, RK_done])
    | (refine CallP.fun_ (h1) (by first | rfl | fail) (by first | assumption | (simp; done) | fail) (by first | (simp; done) | (simp; rfl) | fail) (by first | (simp; done) | fail) (fun d hd => ?_); subst hd; (try simp))
    | (refine CallP.fun_ (h2) (by first | rfl | fail) (by first | assumption | (simp; done) | fail) (by first | (simp; done) | (simp; rfl) | fail) (by first | (simp; done) | fail) (fun d hd => ?_); subst hd; (try simp))
    | fail)
    (refine EndOK.val (.inr rfl) ?_; simp [resD, oneOrTup, pureD, Try.results10])
def shareP (lets : List Let) (e : Exp) : Bool := rightAll lets e && shareS (sF (mOf [] lets)) e
theorem shareP_fun (lets : List Let) (e : Exp) : Fun Try.prog 14 [.u (letsU lets), eagg e] (· = .u (.bool (shareP lets e))) := by
  have h1 := judge_fun lets [] e
  have hk : okJ lets [] e = rightAll lets e := by simp [okJ]
  unfold shareP
  unfold judgeD at h1
  rw [hk] at h1
  cases hK : rightAll lets e
  · rw [hK] at h1
    simp only [letsU, varsU, eagg, Bool.false_eq_true, if_false, List.map_nil] at h1 ⊢
    (refine Fun.of_body Try.func14 rfl (by simp) fun Γ hn => ?_); simp only [entry, List.zipIdx_cons, List.zipIdx_nil, List.map_cons, List.map_nil, Nat.zero_add, Try.ntmps14]
    repeat' (first
    | (refine H_cons ?_; simp)
    | (refine H_nil ?_; simp)
    | (refine V_sseq ?_; simp)
    | (refine V_ret ?_; simp only [RK_seq, RK_seq_ret, RK_seq_exit, RK_blk, RK_blk_ret, RK_blk_exit, RK_loop, RK_loop_ret, RK_loop_exit, RK_done])
    | (refine CallP.fun_ (h1) (by first | rfl | fail) (by first | assumption | (simp; done) | fail) (by first | (simp; done) | (simp; rfl) | fail) (by first | (simp; done) | fail) (fun d hd => ?_); subst hd; (try simp))
    | fail)
    (refine EndOK.val (.inr rfl) ?_; simp [resD, oneOrTup, pureD, Try.results14])
  · rw [hK] at h1
    have h2 := share_fun (gOf []) (mOf (gOf []) lets) 12 e (rights_out hK).2.1
    have hg : gOf [] = [] := rfl
    rw [hg] at h1 h2
    simp only [letsU, varsU, eagg, if_true, jU, List.map_nil] at h1 h2 ⊢
    generalize shareS (sF (mOf [] lets)) e = r at h2 ⊢
    (refine Fun.of_body Try.func14 rfl (by simp) fun Γ hn => ?_); simp only [entry, List.zipIdx_cons, List.zipIdx_nil, List.map_cons, List.map_nil, Nat.zero_add, Try.ntmps14]
    repeat' (first
    | (refine H_cons ?_; simp)
    | (refine H_nil ?_; simp)
    | (refine V_sseq ?_; simp)
    | (refine V_ret ?_; simp only [RK_seq, RK_seq_ret, RK_seq_exit, RK_blk, RK_blk_ret, RK_blk_exit, RK_loop, RK_loop_ret, RK_loop_exit, RK_done])
    | (refine CallP.fun_ (h1) (by first | rfl | fail) (by first | assumption | (simp; done) | fail) (by first | (simp; done) | (simp; rfl) | fail) (by first | (simp; done) | fail) (fun d hd => ?_); subst hd; (try simp))
    | (refine CallP.fun_ (h2) (by first | rfl | fail) (by first | assumption | (simp; done) | fail) (by first | (simp; done) | (simp; rfl) | fail) (by first | (simp; done) | fail) (fun d hd => ?_); subst hd; (try simp))
    | fail)
    (refine EndOK.val (.inr rfl) ?_; simp [resD, oneOrTup, pureD, Try.results14])
def entC (c : List UInt8) : Key × List U := (Key.s c, [varsU (namesS c)])
def givenM : List (Key × List U) := clausesL.map entC
theorem given_fun : Fun Try.prog 38 [] (· = .tup [.u (strs clausesL), .u (.map .s false givenM)]) := by
  (refine Fun.of_bodyW Try.func38 rfl (by simp) fun Γ hn => ?_); simp only [entry, List.zipIdx_cons, List.zipIdx_nil, List.map_cons, List.map_nil, Nat.zero_add, Try.ntmps38]
  repeat' (first
    | (refine H_cons ?_; simp [zcells, chunks])
    | (refine H_nil ?_; simp [zcells, chunks])
    | (refine V_sseq ?_; simp [zcells, chunks])
    | (refine V_drawN rfl (by kernel_rfl) (by kernel_rfl) (by simp [hn]) fun C k hC hk => ?_; simp [zcells, chunks])
    | (refine HD3_val rfl ?_; simp [zcells, chunks])
    | (refine HD3_put ?_; simp [zcells, chunks])
    | (refine HD3_chg rfl rfl ?_; simp [zcells, chunks])
    | (refine HD3_nil (hC _ _ (by kernel_rfl) (by kernel_rfl)) (hk _ ?_); clear hC hk C k; simp only [RK_seq, RK_seq_ret, RK_seq_exit, RK_blk, RK_blk_ret, RK_blk_exit, RK_loop, RK_loop_ret, RK_loop_exit, RK_done]; simp [St.ins, insL, putE, getK_setOb, getK_cons])
    | (refine V_ret ?_; simp only [RK_seq, RK_seq_ret, RK_seq_exit, RK_blk, RK_blk_ret, RK_blk_exit, RK_loop, RK_loop_ret, RK_loop_exit, RK_done])
    | fail)
  (refine EndW.frzN 8 ?_; simp [frzN, frz1, frz_env, frz_obs, St.frz, St.frzS, frzS, fv, fzVec, fzMap, fzBox, frzObS, frz_entD, frz_rowsD, del, frz, frzOb])
  refine EndW.here ?_
  (refine EndOK.val (.inr rfl) ?_; simp [resD, oneOrTup, pureD, Try.results38])
  simp [strs, clausesL, givenM, entC, varsU, namesS]
theorem look_given (c : List UInt8) : lookK givenM (.s c) = if c ∈ clausesL then some [varsU (namesS c)] else none := by
  simp only [givenM, clausesL, List.map_cons, List.map_nil, entC, lookK, Key.s.injEq, List.mem_cons, List.not_mem_nil, or_false]
  repeat' split
  all_goals simp_all
theorem names_nil {c : List UInt8} (h : ¬ c ∈ clausesL) : namesS c = [] := by
  simp only [clausesL, List.mem_cons, List.not_mem_nil, or_false, not_or] at h
  simp [namesS, h]
theorem names_fun (c : List UInt8) : Fun Try.prog 17 [.u (.str c)] (· = .u (varsU (namesS c))) := by
  have h1 := given_fun
  have h2 := look_given c
  by_cases hc0 : c ∈ clausesL
  · rw [if_pos hc0] at h2
    (refine Fun.of_bodyW Try.func17 rfl (by simp) fun Γ hn => ?_); simp only [entry, List.zipIdx_cons, List.zipIdx_nil, List.map_cons, List.map_nil, Nat.zero_add, Try.ntmps17]
    repeat' (first
    | (refine H_cons ?_; simp [h2])
    | (refine H_nil ?_; simp [h2])
    | (refine V_sseq ?_; simp [h2])
    | (refine V_ret ?_; simp only [RK_seq, RK_seq_ret, RK_seq_exit, RK_blk, RK_blk_ret, RK_blk_exit, RK_loop, RK_loop_ret, RK_loop_exit, RK_done])
    | (refine CallP.fun_ (h1) (by first | rfl | fail) (by first | assumption | (simp; done) | fail) (by first | (simp [h2]; done) | (simp [h2]; rfl) | fail) (by first | (simp; done) | fail) (fun d hd => ?_); subst hd; (try simp [h2]))
    | fail)
    refine EndW.here ?_
    (refine EndOK.val (.inr rfl) ?_; simp [resD, oneOrTup, pureD, Try.results17])
  · rw [if_neg hc0] at h2
    rw [names_nil hc0]
    unfold varsU
    (refine Fun.of_bodyW Try.func17 rfl (by simp) fun Γ hn => ?_); simp only [entry, List.zipIdx_cons, List.zipIdx_nil, List.map_cons, List.map_nil, Nat.zero_add, Try.ntmps17]
    repeat' (first
    | (refine H_cons ?_; simp [h2])
    | (refine H_nil ?_; simp [h2])
    | (refine V_sseq ?_; simp [h2])
    | (refine V_ret ?_; simp only [RK_seq, RK_seq_ret, RK_seq_exit, RK_blk, RK_blk_ret, RK_blk_exit, RK_loop, RK_loop_ret, RK_loop_exit, RK_done])
    | (refine CallP.fun_ (h1) (by first | rfl | fail) (by first | assumption | (simp; done) | fail) (by first | (simp [h2]; done) | (simp [h2]; rfl) | fail) (by first | (simp; done) | fail) (fun d hd => ?_); subst hd; (try simp [h2]))
    | fail)
    refine EndW.norm (EndW.here ?_)
    (refine EndOK.val (.inr rfl) ?_; simp [resD, oneOrTup, pureD, Try.results17, frz_obs, frz_env, norm_obs, norm_env, frz, frzOb, frzS, fv, fzVec, fzMap, fzBox, frzObS, frz_entD, frz_rowsD, normD, normU, norm1, normOb])
def vagg (v : Var) : D := .u (.agg [.str v.name, .int .i64 v.unit, .int .i64 v.n])
theorem indexV_fun (l : List (Var)) (f : FuncId) (caps : List U) (p : Var → Bool) (hf : ∀ n ∈ l, Fun Try.prog f (vagg n :: caps.map .u) (· = .u (.bool (p n)))) (hcl : callable Try.prog f = true)
    (hca : ∀ o, argsW o (caps.map .u) = some (caps.map .u, [])) : Fun Try.prog 57 [.u (varsU l), .fnc (.func f) (caps.map .u)] (· = .u (.int .i64 (idxP p l 0))) := by
  (refine Fun.of_body Try.func57 rfl (by simp) fun Γ hn => ?_); simp only [entry, List.zipIdx_cons, List.zipIdx_nil, List.map_cons, List.map_nil, Nat.zero_add, Try.ntmps57]
  simp only [varsU]
  refine V_len (x := 0) rfl fun hl => ?_
  simp at hl
  repeat' (first
    | (refine H_cons ?_; simp)
    | (refine H_nil ?_; simp)
    | (refine V_sseq ?_; simp)
    | (refine V_sblock ?_; simp)
    | fail)
  refine V_loopF (α := { i : Nat // i ≤ l.length ∧ ∀ c ∈ l.take i, p c = false }) [0, 1, 7] (fun i => [(8, .u (.int .i64 i.1))]) (fun i => l.length - i.1) ⟨0, by omega, by simp⟩ ?_ ?_
  · exact (Wk.env rfl rfl rfl (by simp [wkE, St.lp, keepE, getK_cons, getK] <;> (try (intros; simp_all; done)) <;> (try (intros; omega)) <;> (try grind)))
  rintro ⟨i, hi, hb⟩
  simp [St.lp, St.only, keepE, getK_cons, getK]
  rcases hx : l[i]? with _ | n
  · have hge : l.length ≤ i := by simpa using hx
    repeat' (first
    | (refine H_cons ?_; simp [hx])
    | (refine H_nil ?_; simp [hx])
    | (refine ⟨by omega, ?_⟩)
    | (refine V_sseq ?_; simp [hx])
    | (refine V_ret ?_; simp only [RK_seq, RK_seq_ret, RK_seq_exit, RK_blk, RK_blk_ret, RK_blk_exit, RK_loop, RK_loop_ret, RK_loop_exit, RK_done])
    | (refine V_exit ?_; simp [RK_seq, RK_seq_ret, RK_seq_exit, RK_blk, RK_blk_ret, RK_blk_exit, RK_loop, RK_loop_ret, RK_loop_exit, RK_done])
    | (intro hc <;> (try (exfalso; omega)))
    | fail)
    (refine EndOK.val (.inr rfl) ?_; simp [resD, oneOrTup, pureD, Try.results57])
    rw [List.take_of_length_le hge] at hb
    exact (idxP_none hb).symm
  · have hlt : i < l.length := (List.getElem?_eq_some_iff.1 hx).1
    have h1 := hf n (List.mem_of_getElem? hx)
    simp only [vagg] at h1
    cases hp : p n
    · rw [hp] at h1
      repeat' (first
    | (refine H_cons ?_; simp [hx, hca])
    | (refine H_nil ?_; simp [hx, hca])
    | (refine ⟨by omega, ?_⟩)
    | (refine V_sseq ?_; simp [hx, hca])
    | (refine V_scond ?_; simp [hx, hca])
    | (refine V_sregion ?_; simp [hx, hca])
    | (refine V_skip ?_; simp only [RK_seq, RK_seq_ret, RK_seq_exit, RK_blk, RK_blk_ret, RK_blk_exit, RK_loop, RK_loop_ret, RK_loop_exit, RK_done])
    | (refine ⟨?_, by omega⟩)
    | (intro hc <;> (try (exfalso; omega)))
    | (refine CallP.fun_ (h1) (by first | rfl | fail) (by first | assumption | (simp; done) | fail) (by first | (simp [hx, hca]; done) | (simp [hx, hca]; rfl) | fail) (by first | (simp; done) | fail) (fun d hd => ?_); subst hd; (try simp [hx, hca]))
    | fail)
      refine LoopW.next ⟨i + 1, by omega, take_succ_all hx hb hp⟩ (by simp; omega) ?_
      exact (Wk.env rfl rfl rfl (by simp [wkE, St.lp, keepE, getK_cons, getK] <;> (try (intros; simp_all; done)) <;> (try (intros; omega)) <;> (try grind)))
    · rw [hp] at h1
      repeat' (first
    | (refine H_cons ?_; simp [hx, hca])
    | (refine H_nil ?_; simp [hx, hca])
    | (refine V_sseq ?_; simp [hx, hca])
    | (refine V_scond ?_; simp [hx, hca])
    | (refine V_ret ?_; simp only [RK_seq, RK_seq_ret, RK_seq_exit, RK_blk, RK_blk_ret, RK_blk_exit, RK_loop, RK_loop_ret, RK_loop_exit, RK_done])
    | (refine V_skip ?_; simp only [RK_seq, RK_seq_ret, RK_seq_exit, RK_blk, RK_blk_ret, RK_blk_exit, RK_loop, RK_loop_ret, RK_loop_exit, RK_done])
    | (refine ⟨?_, by omega⟩)
    | (intro hc <;> (try (exfalso; omega)))
    | (refine CallP.fun_ (h1) (by first | rfl | fail) (by first | assumption | (simp; done) | fail) (by first | (simp [hx, hca]; done) | (simp [hx, hca]; rfl) | fail) (by first | (simp; done) | fail) (fun d hd => ?_); subst hd; (try simp [hx, hca]))
    | fail)
      (refine EndOK.val (.inr rfl) ?_; simp [resD, oneOrTup, pureD, Try.results57])
      rw [idxP_at hb hx hp]
      omega
theorem containsV_fun (l : List (Var)) (f : FuncId) (caps : List U) (p : Var → Bool) (hf : ∀ n ∈ l, Fun Try.prog f (vagg n :: caps.map .u) (· = .u (.bool (p n)))) (hcl : callable Try.prog f = true)
    (hca : ∀ o, argsW o (caps.map .u) = some (caps.map .u, [])) (hcb : ∀ o, argsU1 o (caps.map .u) = some (caps, [])) : Fun Try.prog 39 [.u (varsU l), .fnc (.func f) (caps.map .u)] (· = .u (.bool (l.any p))) := by
  have h1 := indexV_fun l f caps p hf hcl hca
  (refine Fun.of_body Try.func39 rfl (by simp) fun Γ hn => ?_); simp only [entry, List.zipIdx_cons, List.zipIdx_nil, List.map_cons, List.map_nil, Nat.zero_add, Try.ntmps39]
  simp only [varsU] at h1 ⊢
  repeat' (first
    | (refine H_cons ?_; simp [hcb])
    | (refine H_nil ?_; simp [hcb])
    | (refine V_sseq ?_; simp [hcb])
    | (refine V_ret ?_; simp only [RK_seq, RK_seq_ret, RK_seq_exit, RK_blk, RK_blk_ret, RK_blk_exit, RK_loop, RK_loop_ret, RK_loop_exit, RK_done])
    | (refine CallP.fun_ (h1) (by first | rfl | fail) (by first | assumption | (simp; done) | fail) (by first | (simp [hcb]; done) | (simp [hcb]; rfl) | fail) (by first | (simp; done) | fail) (fun d hd => ?_); subst hd; (try simp [hcb]))
    | fail)
  (refine EndOK.val (.inr rfl) ?_; simp [resD, oneOrTup, pureD, Try.results39])
  have h2 := idxP_any p l 0 (by omega)
  rw [Bool.eq_iff_iff]
  simpa using h2
theorem check1_fun (v : Var) (l : Let) : Fun Try.prog 40 (vagg v :: [U.row (lcells l) 0].map .u) (· = .u (.bool (decide (v.name = l.name)))) := by
  simp only [vagg, lcells, List.map_cons, List.map_nil]
  (refine Fun.of_body Try.func40 rfl (by simp) fun Γ hn => ?_); simp only [entry, List.zipIdx_cons, List.zipIdx_nil, List.map_cons, List.map_nil, Nat.zero_add, Try.ntmps40]
  repeat' (first
    | (refine H_cons ?_; simp)
    | (refine H_nil ?_; simp)
    | (refine V_sseq ?_; simp)
    | (refine V_ret ?_; simp only [RK_seq, RK_seq_ret, RK_seq_exit, RK_blk, RK_blk_ret, RK_blk_exit, RK_loop, RK_loop_ret, RK_loop_exit, RK_done])
    | fail)
  (refine EndOK.val (.inr rfl) ?_; simp [resD, oneOrTup, pureD, Try.results40])
def checkP1 (b : By) (c : List UInt8) : Option (List UInt8 × Int) :=
  if (unitP b.lets (namesS c) (expS b c)).2 = 0 then (if (unitP b.lets (namesS c) (expS b c)).1 ≠ 3 then some (c, 14) else none) else some (c, (unitP b.lets (namesS c) (expS b c)).2)
def checkPC (b : By) : List (List UInt8) → List UInt8 × Int
  | [] => ([], 0)
  | c :: r => match checkP1 b c with | some x => x | none => checkPC b r
def checkP (b : By) : List UInt8 × Int := if rightBy b = false then ([], 1) else match b.lets.find? (fun l => givenB l.name) with | some l => (l.name, 5) | none => checkPC b clausesL
theorem checkP_fun (b : By) : Fun Try.prog 12 [.u (.agg (byCells b))] (· = .tup [.u (.str (checkP b).1), .u (.int .i64 (checkP b).2)]) := by
  have h0 := rightBy_fun b
  have h1 := given_fun
  have hrb : rightBy b = true → b.lets.length ≤ 20 := fun h => by
    simp only [rightBy, Bool.and_eq_true, decide_eq_true_eq] at h
    exact h.1.1.2
  unfold checkP
  generalize rightBy b = rb at h0 hrb ⊢
  simp only [byCells] at h0
  cases rb
  · (refine Fun.of_body Try.func12 rfl (by simp) fun Γ hn => ?_); simp only [entry, List.zipIdx_cons, List.zipIdx_nil, List.map_cons, List.map_nil, Nat.zero_add, Try.ntmps12]
    simp only [byCells]
    repeat' (first
    | (refine H_cons ?_; simp)
    | (refine H_nil ?_; simp)
    | (refine V_sseq ?_; simp)
    | (refine V_scond ?_; simp)
    | (refine V_ret ?_; simp only [RK_seq, RK_seq_ret, RK_seq_exit, RK_blk, RK_blk_ret, RK_blk_exit, RK_loop, RK_loop_ret, RK_loop_exit, RK_done])
    | (refine CallP.fun_ (h0) (by first | rfl | fail) (by first | assumption | (simp; done) | fail) (by first | (simp; done) | (simp; rfl) | fail) (by first | (simp; done) | fail) (fun d hd => ?_); subst hd; (try simp))
    | fail)
    (refine EndOK.val (.inr rfl) ?_; simp [resD, oneOrTup, pureD, Try.results12])
  have h20 := hrb rfl
  (refine Fun.of_body Try.func12 rfl (by simp) fun Γ hn => ?_); simp only [entry, List.zipIdx_cons, List.zipIdx_nil, List.map_cons, List.map_nil, Nat.zero_add, Try.ntmps12]
  simp only [byCells]
  repeat' (first
    | (refine H_cons ?_; simp)
    | (refine H_nil ?_; simp)
    | (refine V_sseq ?_; simp)
    | (refine V_scond ?_; simp)
    | (refine V_sblock ?_; simp)
    | (refine V_skip ?_; simp only [RK_seq, RK_seq_ret, RK_seq_exit, RK_blk, RK_blk_ret, RK_blk_exit, RK_loop, RK_loop_ret, RK_loop_exit, RK_done])
    | (refine CallP.fun_ (h0) (by first | rfl | fail) (by first | assumption | (simp; done) | fail) (by first | (simp; done) | (simp; rfl) | fail) (by first | (simp; done) | fail) (fun d hd => ?_); subst hd; (try simp))
    | (refine CallP.fun_ (h1) (by first | rfl | fail) (by first | assumption | (simp; done) | fail) (by first | (simp; done) | (simp; rfl) | fail) (by first | (simp; done) | fail) (fun d hd => ?_); subst hd; (try simp))
    | fail)
  refine V_loopF (α := { i : Nat // i ≤ b.lets.length ∧ ∀ l ∈ b.lets.take i, givenB l.name = false }) [1, 4, 5, 22, 23] (fun i => [(24, .u (.int .i64 i.1))]) (fun i => b.lets.length - i.1) ⟨0, by omega, by simp⟩ ?_ ?_
  · exact (Wk.cut rfl (by simp [hn]) (by simp [wkO, St.lp, getK_cons, getK, Ob.under, D.under, under_rowsD, under_entD]) (by simp [wkU, St.lp, keepE, getK_cons, getK, D.under]) (by simp [wkE, St.lp, keepE, getK_cons, getK] <;> (try (intros; simp_all; done)) <;> (try (intros; omega)) <;> (try grind)))
  rintro ⟨i, hi, hb⟩
  simp [St.lp, St.only, keepE, getK_cons, getK]
  rcases hx : b.lets[i]? with _ | l
  · have hge : b.lets.length ≤ i := by simpa using hx
    obtain rfl : i = b.lets.length := by omega
    rw [List.take_length] at hb
    have hfn := find_no (p := fun l : Let => givenB l.name) hb
    repeat' (first
    | (refine H_cons ?_; simp [hx, zcells, chunks])
    | (refine H_nil ?_; simp [hx, zcells, chunks])
    | (refine V_sseq ?_; simp [hx, zcells, chunks])
    | (refine V_sblock ?_; simp [hx, zcells, chunks])
    | (refine V_exit ?_; simp [RK_seq, RK_seq_ret, RK_seq_exit, RK_blk, RK_blk_ret, RK_blk_exit, RK_loop, RK_loop_ret, RK_loop_exit, RK_done])
    | fail)
    have step : ∀ {k : Nat} {c : List UInt8}, clausesL[k]? = some c → checkPC b clausesL = checkPC b (clausesL.drop k) → checkPC b clausesL = match checkP1 b c with | some x => x | none => checkPC b (clausesL.drop (k + 1)) := fun {k c} h1 h2 => by
      obtain ⟨hk, rfl⟩ := List.getElem?_eq_some_iff.1 h1
      rw [h2, List.drop_eq_getElem_cons hk, checkPC]
    refine V_loopF (α := { k : Nat // k ≤ 5 ∧ checkPC b clausesL = checkPC b (clausesL.drop k) }) [1, 4, 5, 50, 51] (fun k => [(52, .u (.int .i64 k.1))]) (fun k => 5 - k.1) ⟨0, by omega, by simp⟩ ?_ ?_
    · exact (Wk.cut rfl (by simp [hn]) (by simp [wkO, St.lp, getK_cons, getK, Ob.under, D.under, under_rowsD, under_entD]) (by simp [wkU, St.lp, keepE, getK_cons, getK, D.under]) (by simp [wkE, St.lp, keepE, getK_cons, getK] <;> (try (intros; simp_all; done)) <;> (try (intros; omega)) <;> (try grind)))
    rintro ⟨k, hk, hd⟩
    simp [St.lp, St.only, keepE, getK_cons, getK]
    have hk6 : k = 0 ∨ k = 1 ∨ k = 2 ∨ k = 3 ∨ k = 4 ∨ k = 5 := by omega
    rcases hk6 with rfl | rfl | rfl | rfl | rfl | rfl
    · have st := step (k := 0) (c := [100, 117, 101]) rfl hd
      have e1 := unitOf_fun b.lets (namesS [100, 117, 101]) b.due
      have hlk := look_given [100, 117, 101]
      rw [if_pos (by simp [clausesL])] at hlk
      have cp : checkP1 b [100, 117, 101] = if (unitP b.lets (namesS [100, 117, 101]) b.due).2 = 0 then (if (unitP b.lets (namesS [100, 117, 101]) b.due).1 ≠ 3 then some ([100, 117, 101], 14) else none) else some ([100, 117, 101], (unitP b.lets (namesS [100, 117, 101]) b.due).2) := rfl
      generalize unitP b.lets (namesS [100, 117, 101]) b.due = r at e1 cp
      obtain ⟨u, er⟩ := r
      simp only [eagg, letsU] at e1
      simp only at cp
      have hcl : clausesL[0]? = some [100, 117, 101] := rfl
      repeat' (first
    | (refine H_cons ?_; simp [hlk, hcl, strs])
    | (refine HD_cons ?_; simp [hlk, hcl, strs])
    | (refine H_nil ?_; simp [hlk, hcl, strs])
    | (refine ⟨by omega, ?_⟩)
    | (refine V_sseq ?_; simp [hlk, hcl, strs])
    | (refine V_scond ?_; simp [hlk, hcl, strs])
    | (refine HD_nil ?_)
    | (refine hk _ ?_; clear hk k; simp only [RK_seq, RK_seq_ret, RK_seq_exit, RK_blk, RK_blk_ret, RK_blk_exit, RK_loop, RK_loop_ret, RK_loop_exit, RK_done])
    | (refine V_drawV rfl (by kernel_rfl) (by kernel_rfl) fun k hk => ?_; simp [hlk, hcl, strs])
    | (refine V_sregion ?_; simp [hlk, hcl, strs])
    | (refine V_ret ?_; simp only [RK_seq, RK_seq_ret, RK_seq_exit, RK_blk, RK_blk_ret, RK_blk_exit, RK_loop, RK_loop_ret, RK_loop_exit, RK_done])
    | (refine V_skip ?_; simp only [RK_seq, RK_seq_ret, RK_seq_exit, RK_blk, RK_blk_ret, RK_blk_exit, RK_loop, RK_loop_ret, RK_loop_exit, RK_done])
    | (refine ⟨?_, by omega⟩)
    | (refine ⟨fun hc => ?_, fun hc => ?_⟩ <;> (try (exfalso; omega)))
    | (intro hc <;> (try (exfalso; omega)))
    | (refine CallV.fun_ (e1) (by first | rfl | fail) (by first | assumption | (simp; done) | fail) (by first | (simp [hlk, hcl, strs]; done) | (simp [hlk, hcl, strs]; rfl) | fail) (by first | (simp; done) | fail) ?_ <;> (try simp [hlk, hcl, strs]))
    | fail)
      all_goals first
        | (have g1 : er = 0 := (by first | assumption | fail); have g2 : u = 3 := (by first | assumption | fail); rw [cp, if_pos g1, if_neg (by simp [g2])] at st; refine LoopW.next ⟨0 + 1, by omega, st⟩ (by simp) ?_; exact (Wk.cut rfl (by simp [hn]) (by simp [wkO, St.lp, getK_cons, getK, Ob.under, D.under, under_rowsD, under_entD]) (by simp [wkU, St.lp, keepE, getK_cons, getK, D.under]) (by simp [wkE, St.lp, keepE, getK_cons, getK] <;> (try (intros; simp_all; done)) <;> (try (intros; omega)) <;> (try grind))))
        | (have g1 : er = 0 := (by first | assumption | fail); have g2 : ¬ u = 3 := (by first | assumption | fail); rw [cp, if_pos g1, if_pos g2] at st; (refine EndOK.val (.inr rfl) ?_; simp [resD, oneOrTup, pureD, Try.results12]); rw [hfn, st]; simp; done)
        | (have g1 : ¬ er = 0 := (by first | assumption | fail); rw [cp, if_neg g1] at st; (refine EndOK.val (.inr rfl) ?_; simp [resD, oneOrTup, pureD, Try.results12]); rw [hfn, st]; simp; done)
    · have st := step (k := 1) (c := [102, 105, 110, 101]) rfl hd
      have e1 := unitOf_fun b.lets (namesS [102, 105, 110, 101]) b.fine
      have hlk := look_given [102, 105, 110, 101]
      rw [if_pos (by simp [clausesL])] at hlk
      have cp : checkP1 b [102, 105, 110, 101] = if (unitP b.lets (namesS [102, 105, 110, 101]) b.fine).2 = 0 then (if (unitP b.lets (namesS [102, 105, 110, 101]) b.fine).1 ≠ 3 then some ([102, 105, 110, 101], 14) else none) else some ([102, 105, 110, 101], (unitP b.lets (namesS [102, 105, 110, 101]) b.fine).2) := rfl
      generalize unitP b.lets (namesS [102, 105, 110, 101]) b.fine = r at e1 cp
      obtain ⟨u, er⟩ := r
      simp only [eagg, letsU] at e1
      simp only at cp
      have hcl : clausesL[1]? = some [102, 105, 110, 101] := rfl
      repeat' (first
    | (refine H_cons ?_; simp [hlk, hcl, strs])
    | (refine HD_cons ?_; simp [hlk, hcl, strs])
    | (refine H_nil ?_; simp [hlk, hcl, strs])
    | (refine ⟨by omega, ?_⟩)
    | (refine V_sseq ?_; simp [hlk, hcl, strs])
    | (refine V_scond ?_; simp [hlk, hcl, strs])
    | (refine HD_nil ?_)
    | (refine hk _ ?_; clear hk k; simp only [RK_seq, RK_seq_ret, RK_seq_exit, RK_blk, RK_blk_ret, RK_blk_exit, RK_loop, RK_loop_ret, RK_loop_exit, RK_done])
    | (refine V_drawV rfl (by kernel_rfl) (by kernel_rfl) fun k hk => ?_; simp [hlk, hcl, strs])
    | (refine V_sregion ?_; simp [hlk, hcl, strs])
    | (refine V_ret ?_; simp only [RK_seq, RK_seq_ret, RK_seq_exit, RK_blk, RK_blk_ret, RK_blk_exit, RK_loop, RK_loop_ret, RK_loop_exit, RK_done])
    | (refine V_skip ?_; simp only [RK_seq, RK_seq_ret, RK_seq_exit, RK_blk, RK_blk_ret, RK_blk_exit, RK_loop, RK_loop_ret, RK_loop_exit, RK_done])
    | (refine ⟨?_, by omega⟩)
    | (refine ⟨fun hc => ?_, fun hc => ?_⟩ <;> (try (exfalso; omega)))
    | (intro hc <;> (try (exfalso; omega)))
    | (refine CallV.fun_ (e1) (by first | rfl | fail) (by first | assumption | (simp; done) | fail) (by first | (simp [hlk, hcl, strs]; done) | (simp [hlk, hcl, strs]; rfl) | fail) (by first | (simp; done) | fail) ?_ <;> (try simp [hlk, hcl, strs]))
    | fail)
      all_goals first
        | (have g1 : er = 0 := (by first | assumption | fail); have g2 : u = 3 := (by first | assumption | fail); rw [cp, if_pos g1, if_neg (by simp [g2])] at st; refine LoopW.next ⟨1 + 1, by omega, st⟩ (by simp) ?_; exact (Wk.cut rfl (by simp [hn]) (by simp [wkO, St.lp, getK_cons, getK, Ob.under, D.under, under_rowsD, under_entD]) (by simp [wkU, St.lp, keepE, getK_cons, getK, D.under]) (by simp [wkE, St.lp, keepE, getK_cons, getK] <;> (try (intros; simp_all; done)) <;> (try (intros; omega)) <;> (try grind))))
        | (have g1 : er = 0 := (by first | assumption | fail); have g2 : ¬ u = 3 := (by first | assumption | fail); rw [cp, if_pos g1, if_pos g2] at st; (refine EndOK.val (.inr rfl) ?_; simp [resD, oneOrTup, pureD, Try.results12]); rw [hfn, st]; simp; done)
        | (have g1 : ¬ er = 0 := (by first | assumption | fail); rw [cp, if_neg g1] at st; (refine EndOK.val (.inr rfl) ?_; simp [resD, oneOrTup, pureD, Try.results12]); rw [hfn, st]; simp; done)
    · have st := step (k := 2) (c := [112, 97, 121]) rfl hd
      have e1 := unitOf_fun b.lets (namesS [112, 97, 121]) b.pay
      have hlk := look_given [112, 97, 121]
      rw [if_pos (by simp [clausesL])] at hlk
      have cp : checkP1 b [112, 97, 121] = if (unitP b.lets (namesS [112, 97, 121]) b.pay).2 = 0 then (if (unitP b.lets (namesS [112, 97, 121]) b.pay).1 ≠ 3 then some ([112, 97, 121], 14) else none) else some ([112, 97, 121], (unitP b.lets (namesS [112, 97, 121]) b.pay).2) := rfl
      generalize unitP b.lets (namesS [112, 97, 121]) b.pay = r at e1 cp
      obtain ⟨u, er⟩ := r
      simp only [eagg, letsU] at e1
      simp only at cp
      have hcl : clausesL[2]? = some [112, 97, 121] := rfl
      repeat' (first
    | (refine H_cons ?_; simp [hlk, hcl, strs])
    | (refine HD_cons ?_; simp [hlk, hcl, strs])
    | (refine H_nil ?_; simp [hlk, hcl, strs])
    | (refine ⟨by omega, ?_⟩)
    | (refine V_sseq ?_; simp [hlk, hcl, strs])
    | (refine V_scond ?_; simp [hlk, hcl, strs])
    | (refine HD_nil ?_)
    | (refine hk _ ?_; clear hk k; simp only [RK_seq, RK_seq_ret, RK_seq_exit, RK_blk, RK_blk_ret, RK_blk_exit, RK_loop, RK_loop_ret, RK_loop_exit, RK_done])
    | (refine V_drawV rfl (by kernel_rfl) (by kernel_rfl) fun k hk => ?_; simp [hlk, hcl, strs])
    | (refine V_sregion ?_; simp [hlk, hcl, strs])
    | (refine V_ret ?_; simp only [RK_seq, RK_seq_ret, RK_seq_exit, RK_blk, RK_blk_ret, RK_blk_exit, RK_loop, RK_loop_ret, RK_loop_exit, RK_done])
    | (refine V_skip ?_; simp only [RK_seq, RK_seq_ret, RK_seq_exit, RK_blk, RK_blk_ret, RK_blk_exit, RK_loop, RK_loop_ret, RK_loop_exit, RK_done])
    | (refine ⟨?_, by omega⟩)
    | (refine ⟨fun hc => ?_, fun hc => ?_⟩ <;> (try (exfalso; omega)))
    | (intro hc <;> (try (exfalso; omega)))
    | (refine CallV.fun_ (e1) (by first | rfl | fail) (by first | assumption | (simp; done) | fail) (by first | (simp [hlk, hcl, strs]; done) | (simp [hlk, hcl, strs]; rfl) | fail) (by first | (simp; done) | fail) ?_ <;> (try simp [hlk, hcl, strs]))
    | fail)
      all_goals first
        | (have g1 : er = 0 := (by first | assumption | fail); have g2 : u = 3 := (by first | assumption | fail); rw [cp, if_pos g1, if_neg (by simp [g2])] at st; refine LoopW.next ⟨2 + 1, by omega, st⟩ (by simp) ?_; exact (Wk.cut rfl (by simp [hn]) (by simp [wkO, St.lp, getK_cons, getK, Ob.under, D.under, under_rowsD, under_entD]) (by simp [wkU, St.lp, keepE, getK_cons, getK, D.under]) (by simp [wkE, St.lp, keepE, getK_cons, getK] <;> (try (intros; simp_all; done)) <;> (try (intros; omega)) <;> (try grind))))
        | (have g1 : er = 0 := (by first | assumption | fail); have g2 : ¬ u = 3 := (by first | assumption | fail); rw [cp, if_pos g1, if_pos g2] at st; (refine EndOK.val (.inr rfl) ?_; simp [resD, oneOrTup, pureD, Try.results12]); rw [hfn, st]; simp; done)
        | (have g1 : ¬ er = 0 := (by first | assumption | fail); rw [cp, if_neg g1] at st; (refine EndOK.val (.inr rfl) ?_; simp [resD, oneOrTup, pureD, Try.results12]); rw [hfn, st]; simp; done)
    · have st := step (k := 3) (c := [99, 111, 118, 101, 114]) rfl hd
      have e1 := unitOf_fun b.lets (namesS [99, 111, 118, 101, 114]) b.cover
      have hlk := look_given [99, 111, 118, 101, 114]
      rw [if_pos (by simp [clausesL])] at hlk
      have cp : checkP1 b [99, 111, 118, 101, 114] = if (unitP b.lets (namesS [99, 111, 118, 101, 114]) b.cover).2 = 0 then (if (unitP b.lets (namesS [99, 111, 118, 101, 114]) b.cover).1 ≠ 3 then some ([99, 111, 118, 101, 114], 14) else none) else some ([99, 111, 118, 101, 114], (unitP b.lets (namesS [99, 111, 118, 101, 114]) b.cover).2) := rfl
      generalize unitP b.lets (namesS [99, 111, 118, 101, 114]) b.cover = r at e1 cp
      obtain ⟨u, er⟩ := r
      simp only [eagg, letsU] at e1
      simp only at cp
      have hcl : clausesL[3]? = some [99, 111, 118, 101, 114] := rfl
      repeat' (first
    | (refine H_cons ?_; simp [hlk, hcl, strs])
    | (refine HD_cons ?_; simp [hlk, hcl, strs])
    | (refine H_nil ?_; simp [hlk, hcl, strs])
    | (refine ⟨by omega, ?_⟩)
    | (refine V_sseq ?_; simp [hlk, hcl, strs])
    | (refine V_scond ?_; simp [hlk, hcl, strs])
    | (refine HD_nil ?_)
    | (refine hk _ ?_; clear hk k; simp only [RK_seq, RK_seq_ret, RK_seq_exit, RK_blk, RK_blk_ret, RK_blk_exit, RK_loop, RK_loop_ret, RK_loop_exit, RK_done])
    | (refine V_drawV rfl (by kernel_rfl) (by kernel_rfl) fun k hk => ?_; simp [hlk, hcl, strs])
    | (refine V_sregion ?_; simp [hlk, hcl, strs])
    | (refine V_ret ?_; simp only [RK_seq, RK_seq_ret, RK_seq_exit, RK_blk, RK_blk_ret, RK_blk_exit, RK_loop, RK_loop_ret, RK_loop_exit, RK_done])
    | (refine V_skip ?_; simp only [RK_seq, RK_seq_ret, RK_seq_exit, RK_blk, RK_blk_ret, RK_blk_exit, RK_loop, RK_loop_ret, RK_loop_exit, RK_done])
    | (refine ⟨?_, by omega⟩)
    | (refine ⟨fun hc => ?_, fun hc => ?_⟩ <;> (try (exfalso; omega)))
    | (intro hc <;> (try (exfalso; omega)))
    | (refine CallV.fun_ (e1) (by first | rfl | fail) (by first | assumption | (simp; done) | fail) (by first | (simp [hlk, hcl, strs]; done) | (simp [hlk, hcl, strs]; rfl) | fail) (by first | (simp; done) | fail) ?_ <;> (try simp [hlk, hcl, strs]))
    | fail)
      all_goals first
        | (have g1 : er = 0 := (by first | assumption | fail); have g2 : u = 3 := (by first | assumption | fail); rw [cp, if_pos g1, if_neg (by simp [g2])] at st; refine LoopW.next ⟨3 + 1, by omega, st⟩ (by simp) ?_; exact (Wk.cut rfl (by simp [hn]) (by simp [wkO, St.lp, getK_cons, getK, Ob.under, D.under, under_rowsD, under_entD]) (by simp [wkU, St.lp, keepE, getK_cons, getK, D.under]) (by simp [wkE, St.lp, keepE, getK_cons, getK] <;> (try (intros; simp_all; done)) <;> (try (intros; omega)) <;> (try grind))))
        | (have g1 : er = 0 := (by first | assumption | fail); have g2 : ¬ u = 3 := (by first | assumption | fail); rw [cp, if_pos g1, if_pos g2] at st; (refine EndOK.val (.inr rfl) ?_; simp [resD, oneOrTup, pureD, Try.results12]); rw [hfn, st]; simp; done)
        | (have g1 : ¬ er = 0 := (by first | assumption | fail); rw [cp, if_neg g1] at st; (refine EndOK.val (.inr rfl) ?_; simp [resD, oneOrTup, pureD, Try.results12]); rw [hfn, st]; simp; done)
    · have st := step (k := 4) (c := [104, 111, 108, 100]) rfl hd
      have e1 := unitOf_fun b.lets (namesS [104, 111, 108, 100]) b.hold
      have hlk := look_given [104, 111, 108, 100]
      rw [if_pos (by simp [clausesL])] at hlk
      have cp : checkP1 b [104, 111, 108, 100] = if (unitP b.lets (namesS [104, 111, 108, 100]) b.hold).2 = 0 then (if (unitP b.lets (namesS [104, 111, 108, 100]) b.hold).1 ≠ 3 then some ([104, 111, 108, 100], 14) else none) else some ([104, 111, 108, 100], (unitP b.lets (namesS [104, 111, 108, 100]) b.hold).2) := rfl
      generalize unitP b.lets (namesS [104, 111, 108, 100]) b.hold = r at e1 cp
      obtain ⟨u, er⟩ := r
      simp only [eagg, letsU] at e1
      simp only at cp
      have hcl : clausesL[4]? = some [104, 111, 108, 100] := rfl
      repeat' (first
    | (refine H_cons ?_; simp [hlk, hcl, strs])
    | (refine HD_cons ?_; simp [hlk, hcl, strs])
    | (refine H_nil ?_; simp [hlk, hcl, strs])
    | (refine ⟨by omega, ?_⟩)
    | (refine V_sseq ?_; simp [hlk, hcl, strs])
    | (refine V_scond ?_; simp [hlk, hcl, strs])
    | (refine HD_nil ?_)
    | (refine hk _ ?_; clear hk k; simp only [RK_seq, RK_seq_ret, RK_seq_exit, RK_blk, RK_blk_ret, RK_blk_exit, RK_loop, RK_loop_ret, RK_loop_exit, RK_done])
    | (refine V_drawV rfl (by kernel_rfl) (by kernel_rfl) fun k hk => ?_; simp [hlk, hcl, strs])
    | (refine V_sregion ?_; simp [hlk, hcl, strs])
    | (refine V_ret ?_; simp only [RK_seq, RK_seq_ret, RK_seq_exit, RK_blk, RK_blk_ret, RK_blk_exit, RK_loop, RK_loop_ret, RK_loop_exit, RK_done])
    | (refine V_skip ?_; simp only [RK_seq, RK_seq_ret, RK_seq_exit, RK_blk, RK_blk_ret, RK_blk_exit, RK_loop, RK_loop_ret, RK_loop_exit, RK_done])
    | (refine ⟨?_, by omega⟩)
    | (refine ⟨fun hc => ?_, fun hc => ?_⟩ <;> (try (exfalso; omega)))
    | (intro hc <;> (try (exfalso; omega)))
    | (refine CallV.fun_ (e1) (by first | rfl | fail) (by first | assumption | (simp; done) | fail) (by first | (simp [hlk, hcl, strs]; done) | (simp [hlk, hcl, strs]; rfl) | fail) (by first | (simp; done) | fail) ?_ <;> (try simp [hlk, hcl, strs]))
    | fail)
      all_goals first
        | (have g1 : er = 0 := (by first | assumption | fail); have g2 : u = 3 := (by first | assumption | fail); rw [cp, if_pos g1, if_neg (by simp [g2])] at st; refine LoopW.next ⟨4 + 1, by omega, st⟩ (by simp) ?_; exact (Wk.cut rfl (by simp [hn]) (by simp [wkO, St.lp, getK_cons, getK, Ob.under, D.under, under_rowsD, under_entD]) (by simp [wkU, St.lp, keepE, getK_cons, getK, D.under]) (by simp [wkE, St.lp, keepE, getK_cons, getK] <;> (try (intros; simp_all; done)) <;> (try (intros; omega)) <;> (try grind))))
        | (have g1 : er = 0 := (by first | assumption | fail); have g2 : ¬ u = 3 := (by first | assumption | fail); rw [cp, if_pos g1, if_pos g2] at st; (refine EndOK.val (.inr rfl) ?_; simp [resD, oneOrTup, pureD, Try.results12]); rw [hfn, st]; simp; done)
        | (have g1 : ¬ er = 0 := (by first | assumption | fail); rw [cp, if_neg g1] at st; (refine EndOK.val (.inr rfl) ?_; simp [resD, oneOrTup, pureD, Try.results12]); rw [hfn, st]; simp; done)
    · have hend : checkPC b clausesL = ([], 0) := by rw [hd]; rfl
      repeat' (first
    | (refine H_cons ?_; simp)
    | (refine H_nil ?_; simp)
    | (refine V_sseq ?_; simp)
    | (refine V_ret ?_; simp only [RK_seq, RK_seq_ret, RK_seq_exit, RK_blk, RK_blk_ret, RK_blk_exit, RK_loop, RK_loop_ret, RK_loop_exit, RK_done])
    | (refine V_exit ?_; simp [RK_seq, RK_seq_ret, RK_seq_exit, RK_blk, RK_blk_ret, RK_blk_exit, RK_loop, RK_loop_ret, RK_loop_exit, RK_done])
    | fail)
      (refine EndOK.val (.inr rfl) ?_; simp [resD, oneOrTup, pureD, Try.results12])
      rw [hfn, hend]
      simp
  · have hlt : i < b.lets.length := (List.getElem?_eq_some_iff.1 hx).1
    have hfa := fun h => find_at (p := fun l : Let => givenB l.name) hb hx h
    repeat' (first
    | (refine H_cons ?_; simp [hx])
    | (refine H_nil ?_; simp [hx])
    | (refine V_sseq ?_; simp [hx])
    | (refine V_sblock ?_; simp [hx])
    | (refine V_skip ?_; simp only [RK_seq, RK_seq_ret, RK_seq_exit, RK_blk, RK_blk_ret, RK_blk_exit, RK_loop, RK_loop_ret, RK_loop_exit, RK_done])
    | (refine ⟨?_, by omega⟩)
    | (intro hc <;> (try (exfalso; omega)))
    | fail)
    refine V_loopO (α := { q : List (Key × List U) × Option (Key × List U) // (∀ p ∈ q.1, ∃ c ∈ clausesL, p = entC c) ∧ ∀ c ∈ clausesL, entC c ∈ q.1 ∨ ((namesS c).any fun v => decide (v.name = l.name)) = false }) [1, 4, 5, 22, 23, 24, 7, 29] (fun q => [])
      (fun q => [(2, .it .s false givenM q.1.1 q.1.2), (1, .box [.u (.str l.name), .u (.int .i64 l.body.op), .u (.int .i64 l.body.n), .u (.int .i64 l.body.unit), .u (.str l.body.s), .u (.sl (l.body.args.map Exp.row))]), (0, .box ((byCells b).map .u))]) 3
      (fun q => q.1.1.length) ⟨(givenM, none), ?_, ?_⟩ ?_ ?_
    · intro p hp
      obtain ⟨c, hc, rfl⟩ := List.mem_map.1 hp
      exact ⟨c, hc, rfl⟩
    · intro c hc
      exact .inl (List.mem_map.2 ⟨c, hc, rfl⟩)
    · exact (Wk.cut rfl (by simp [hn]) (by simp [wkO, St.lp, getK_cons, getK, Ob.under, D.under, under_rowsD, under_entD, byCells]) (by simp [wkU, St.lp, keepE, getK_cons, getK, D.under, byCells]) (by simp [wkE, St.lp, keepE, getK_cons, getK, byCells] <;> (try (intros; simp_all; done)) <;> (try (intros; omega)) <;> (try grind)))
    rintro ⟨⟨left, cur⟩, hq1, hq2⟩
    simp only at hq1 hq2
    simp [St.lp, St.only, keepE, getK_cons, getK]
    simp only [byCells, List.map_cons, List.map_nil]
    repeat' (first
    | (refine H_cons ?_; simp [hx])
    | (refine H_nil ?_; simp [hx])
    | (refine ⟨by omega, ?_⟩)
    | (refine V_sseq ?_; simp [hx])
    | (refine V_sblock ?_; simp [hx])
    | (refine V_sregion ?_; simp [hx])
    | (refine V_skip ?_; simp only [RK_seq, RK_seq_ret, RK_seq_exit, RK_blk, RK_blk_ret, RK_blk_exit, RK_loop, RK_loop_ret, RK_loop_exit, RK_done])
    | (refine V_exit ?_; simp [RK_seq, RK_seq_ret, RK_seq_exit, RK_blk, RK_blk_ret, RK_blk_exit, RK_loop, RK_loop_ret, RK_loop_exit, RK_done])
    | (refine ⟨fun hc => ?_, fun hc => ?_⟩ <;> (try (exfalso; omega)))
    | (intro hc <;> (try (exfalso; omega)))
    | fail)
    · have hno : givenB l.name = false := by
        unfold givenB
        rw [List.any_eq_false]
        intro c hc1
        rcases hq2 c hc1 with h | h
        · simp_all
        · simp only [h]; simp
      refine LoopW.next ⟨i + 1, by omega, take_succ_all hx hb hno⟩ (by simp; omega) ?_
      exact (Wk.cut rfl (by simp [hn]) (by simp [wkO, St.lp, getK_cons, getK, Ob.under, D.under, under_rowsD, under_entD]) (by simp [wkU, St.lp, keepE, getK_cons, getK, D.under]) (by simp [wkE, St.lp, keepE, getK_cons, getK] <;> (try (intros; simp_all; done)) <;> (try (intros; omega)) <;> (try grind)))
    · rename_i l1 pk pv l2
      have hl : left = l1 ++ (pk, pv) :: l2 := hc
      obtain ⟨c, hc1, hpc⟩ := hq1 (pk, pv) (by rw [hl]; simp)
      simp only [entC, Prod.mk.injEq] at hpc
      obtain ⟨rfl, rfl⟩ := hpc
      have hvn := containsV_fun (namesS c) 40 [U.row (lcells l) 0] _ (fun v _ => check1_fun v l) (by simp) (fun _ => rfl) (fun _ => rfl)
      simp only [lcells, List.map_cons, List.map_nil] at hvn
      cases hany : ((namesS c).any fun v => decide (v.name = l.name))
      all_goals
        rw [hany] at hvn
        try simp only [entC]
        try simp
        repeat' (first
    | (refine H_cons ?_; simp [hx])
    | (refine H_nil ?_; simp [hx])
    | (refine V_sseq ?_; simp [hx])
    | (refine V_scond ?_; simp [hx])
    | (refine V_ret ?_; simp only [RK_seq, RK_seq_ret, RK_seq_exit, RK_blk, RK_blk_ret, RK_blk_exit, RK_loop, RK_loop_ret, RK_loop_exit, RK_done])
    | (refine V_skip ?_; simp only [RK_seq, RK_seq_ret, RK_seq_exit, RK_blk, RK_blk_ret, RK_blk_exit, RK_loop, RK_loop_ret, RK_loop_exit, RK_done])
    | (refine CallP.fun_ (hvn) (by first | rfl | fail) (by first | assumption | (simp; done) | fail) (by first | (simp [hx]; done) | (simp [hx]; rfl) | fail) (by first | (simp; done) | fail) (fun d hd => ?_); subst hd; (try simp [hx]))
    | fail)
      · refine LoopW.next ⟨(l1 ++ l2, some (entC c)), ?_, ?_⟩ ?_ ?_
        · intro p hp
          exact hq1 p (by rw [hl]; simp at hp ⊢; rcases hp with h | h <;> simp [h])
        · intro c' hc'
          rcases hq2 c' hc' with h | h
          · rw [hl] at h
            simp only [List.mem_append, List.mem_cons] at h
            rcases h with h | h | h
            · exact .inl (List.mem_append.2 (.inl h))
            · have : c' = c := by simp [entC] at h; exact h.1
              subst this
              exact .inr hany
            · exact .inl (List.mem_append.2 (.inr h))
          · exact .inr h
        · first | (simp [hl]; done) | (simp [hl]; omega)
        · exact (Wk.cut rfl (by simp [hn]) (by simp [wkO, St.lp, getK_cons, getK, Ob.under, D.under, under_rowsD, under_entD, entC]) (by simp [wkU, St.lp, keepE, getK_cons, getK, D.under, entC]) (by simp [wkE, St.lp, keepE, getK_cons, getK, entC] <;> (try (intros; simp_all; done)) <;> (try (intros; omega)) <;> (try grind)))
      · (refine EndOK.val (.inr rfl) ?_; simp [resD, oneOrTup, pureD, Try.results12])
        have hyes : givenB l.name = true := by
          unfold givenB
          rw [List.any_eq_true]
          exact ⟨c, hc1, hany⟩
        rw [hfa hyes]
        simp
end Go.Proofs.Ytehlmagdlkcifaa
