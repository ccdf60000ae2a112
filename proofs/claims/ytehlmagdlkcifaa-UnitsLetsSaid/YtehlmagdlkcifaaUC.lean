/- UnitsLets: for every input the law returns true, and each argument reads afterwards as it read before. No condition. -/
import Derived.Test.YtehlmagdlkcifaaUz
import Derived.Test.YtehlmagdlkcifaaVLS
import Derived.Test.YtehlmagdlkcifaaUv
import Derived.Test.YtehlmagdlkcifaaUt
set_option linter.all false
set_option maxRecDepth 100000
set_option maxHeartbeats 8000000
namespace Go.Proofs.Ytehlmagdlkcifaa
open Go Go.VL Go.ChangeShapes Go.WideShapes Go.ChangeAt Go.RowKit
theorem uses_all (s : List UInt8) (lets : List Let) (e : Exp) : ∃ U : Nat → Bool, U 0 = usesS s e ∧ (∀ i l, lets[i]? = some l → U (i + 1) = (U i || usesS s l.body)) ∧ (U lets.length = false → usesS s e = false ∧ ∀ x ∈ lets, usesS s x.body = false) := by
  refine ⟨fun i => usesS s e || (lets.take i).any fun x => usesS s x.body, by simp, fun i l h => ?_, fun h => ?_⟩
  · obtain ⟨hi, rfl⟩ := List.getElem?_eq_some_iff.1 h
    simp only
    rw [List.take_succ_eq_append_getElem hi, List.any_append]
    simp [Bool.or_assoc]
  · simp only [List.take_length, Bool.or_eq_false_iff, List.any_eq_false] at h
    exact ⟨h.1, fun x hx => by simpa using h.2 x hx⟩
theorem take_succ_all' {α : Type} {p : α → Prop} {l : List α} {i : Nat} {a : α} (hx : l[i]? = some a) (h : ∀ v ∈ l.take i, ¬ p v) (ha : ¬ p a) : ∀ v ∈ l.take (i + 1), ¬ p v := by
  obtain ⟨hi, rfl⟩ := List.getElem?_eq_some_iff.1 hx
  rw [List.take_succ_eq_append_getElem hi]
  intro v hv
  rcases List.mem_append.1 hv with h1 | h1
  · exact h v h1
  · simp at h1; rw [h1]; exact ha
section
attribute [local simp] hcons hstep evPure opd uOf putOK St.put St.at getK binD binI binS binB nilD aggD eqUs cmpK lookD lookR rangeD nextD entryD keyD valU keyU lookK mkV entD_nil lookK_entD updK_entD1 updK_entD2 updK_entD3 allUE allUE_entD makeMapD mapUpdD mapEff updK valM Key.kk shiftI arith unD convD pickD loadD cellsAt fieldAddrD fieldD indexAddrD indexD sliceD cutD lenD minmaxD nilCheckD buildD fillD cellsD isOne ones setAll mkAgg allU allocD boxD storeD St.add buildSliceD appendD rowsOf makeD setOb getK_setOb getK_del getK_cons stripL strip guardTmp entry chunks zcells valD argsV argsW argW argU1 argU0 argsU0 argsU1 calleeOf scalarD scalarU delAll effD St.effS RK_seq RK_seq_ret RK_seq_exit RK_blk RK_blk_ret RK_blk_exit RK_loop RK_loop_ret RK_loop_exit RK_done vs_seq vs_block vs_skip vs_label vs_exit vs_ret vs_cond vs_region vs_loop vs_draw vs_range vs_scope applyW mkD rdIds lentIds callOf calleeOf freeOp D.ids Op.operands Call.operands isEffOp IntKind.bits allU2 allU2_append List.take_of_length_le List.range_succ
attribute [local irreducible] V G H HD HD2 RunK Eff CallP CallV EndOK Fun Ret FinOK LoopI LoopW EndW
set_option maxRecDepth 100000 in
set_option maxHeartbeats 4000000 in
theorem lets_fun (lets : List Let) (given : List Var) (e : Exp) (more : Var) (spare : Let) : Fun Try.prog 6 [.u (letsU lets), .u (varsU given), eagg e, vagg more, lagg spare] (· = .u (.bool true)) := by
  have h0 := small_fun
  have h1 := few3_fun lets given e
  have hthin := @few3_out lets given e
  have h2 := fewExp_fun e 20 (by decide) (by decide)
  have h3 := fewLets_fun [spare] 1 40 (by decide) (by decide) (by decide) (by decide)
  have h4 := unitOf_fun lets given e
  have h5 := uses_fun more.name _ e (Nat.le_refl _)
  have h6 := uses_fun spare.name _ e (Nat.le_refl _)
  have hmore := fun hv he hl => @unitP_more lets given e more hv he hl
  have hspare := fun hv hn he hl => @unitP_spare lets given e spare hv hn he hl
  have hshare := fun hv hn he hl => @shareP_spare lets e spare hv hn he hl
  have hput := fun last n hl hn hg hu hx hb => @unitP_put lets given e last n hl hn hg hu hx hb
  obtain ⟨U, hU0, hUn, hUe⟩ := uses_all more.name lets e
  obtain ⟨T, hT0, hTn, hTe⟩ := uses_all spare.name lets e
  rw [← hU0] at h5
  rw [← hT0] at h6
  generalize few3 lets given e = f3 at h1 hthin
  generalize fewE e 20 = f4 at h2
  generalize fewL [spare] 1 40 = f5 at h3
  generalize hue : unitP lets given e = ue at h4 hmore hspare hput
  obtain ⟨u, bad⟩ := ue
  simp only [eagg, letsU, varsU, vagg, lagg, List.map_cons, List.map_nil] at h1 h2 h3 h4 h5 h6 ⊢
  (refine Fun.of_body Try.func6 rfl (by simp) fun Γ hn => ?_); simp only [entry, List.zipIdx_cons, List.zipIdx_nil, List.map_cons, List.map_nil, Nat.zero_add, Try.ntmps6]
  repeat' (first
    | (refine H_cons ?_; simp)
    | (refine HD2_val rfl ?_; simp)
    | (refine HD_cons ?_; simp)
    | (refine HD2_chg rfl ?_; simp)
    | (refine H_nil ?_; simp)
    | (refine ⟨by omega, ?_⟩)
    | (refine V_sseq ?_; simp)
    | (refine V_scond ?_; simp)
    | (refine HD2_nil (hC _ (by kernel_rfl)) (hk _ ?_); clear hC hk C k; simp only [RK_seq, RK_seq_ret, RK_seq_exit, RK_blk, RK_blk_ret, RK_blk_exit, RK_loop, RK_loop_ret, RK_loop_exit, RK_done])
    | (refine HD_nil ?_)
    | (refine hk _ ?_; clear hk k; simp only [RK_seq, RK_seq_ret, RK_seq_exit, RK_blk, RK_blk_ret, RK_blk_exit, RK_loop, RK_loop_ret, RK_loop_exit, RK_done])
    | (refine V_drawV rfl (by kernel_rfl) (by kernel_rfl) fun k hk => ?_; simp)
    | (refine V_drawN rfl (by kernel_rfl) (by kernel_rfl) (by simp [hn]) fun C k hC hk => ?_; simp)
    | (refine HD3_val rfl ?_; simp)
    | (refine HD3_put ?_; simp)
    | (refine HD3_chg rfl rfl ?_; simp)
    | (refine HD3_nil (hC _ _ (by kernel_rfl) (by kernel_rfl)) (hk _ ?_); clear hC hk C k; simp only [RK_seq, RK_seq_ret, RK_seq_exit, RK_blk, RK_blk_ret, RK_blk_exit, RK_loop, RK_loop_ret, RK_loop_exit, RK_done]; simp [St.ins, insL, putE, getK_setOb, getK_cons])
    | (refine V_drawE rfl (by kernel_rfl) (by kernel_rfl) (by simp [hn]) fun C k hC hk => ?_; simp)
    | (refine HD_guardU rfl (by simp) ?_; simp)
    | (refine HD_guard rfl (by simp) (fun hc => ?_) (fun hc => ?_) <;> (try simp at hc) <;> (try (exfalso; omega)) <;> (try simp))
    | (refine HD2_guardU rfl (by simp) ?_; simp)
    | (refine HD2_guard rfl (by simp) (fun hc => ?_) (fun hc => ?_) <;> (try simp at hc) <;> (try (exfalso; omega)) <;> (try simp))
    | (refine V_sblock ?_; simp)
    | (refine V_sregion ?_; simp)
    | (refine V_ret ?_; simp only [RK_seq, RK_seq_ret, RK_seq_exit, RK_blk, RK_blk_ret, RK_blk_exit, RK_loop, RK_loop_ret, RK_loop_exit, RK_done])
    | (refine V_skip ?_; simp only [RK_seq, RK_seq_ret, RK_seq_exit, RK_blk, RK_blk_ret, RK_blk_exit, RK_loop, RK_loop_ret, RK_loop_exit, RK_done])
    | (refine V_exit ?_; simp [RK_seq, RK_seq_ret, RK_seq_exit, RK_blk, RK_blk_ret, RK_blk_exit, RK_loop, RK_loop_ret, RK_loop_exit, RK_done])
    | (refine ⟨?_, by omega⟩)
    | (refine ⟨fun hc => ?_, fun hc => ?_⟩ <;> (try (exfalso; omega)))
    | (intro hc <;> (try (exfalso; omega)))
    | (refine CallV.fun_ (h0) (by first | rfl | fail) (by first | assumption | (simp; done) | fail) (by first | (simp; done) | (simp; rfl) | fail) (by first | (simp; done) | fail) ?_ <;> (try simp))
    | (refine CallP.fun_ (h0) (by first | rfl | fail) (by first | assumption | (simp; done) | fail) (by first | (simp; done) | (simp; rfl) | fail) (by first | (simp; done) | fail) (fun d hd => ?_); subst hd; (try simp))
    | (refine CallV.fun_ (h1) (by first | rfl | fail) (by first | assumption | (simp; done) | fail) (by first | (simp; done) | (simp; rfl) | fail) (by first | (simp; done) | fail) ?_ <;> (try simp))
    | (refine CallP.fun_ (h1) (by first | rfl | fail) (by first | assumption | (simp; done) | fail) (by first | (simp; done) | (simp; rfl) | fail) (by first | (simp; done) | fail) (fun d hd => ?_); subst hd; (try simp))
    | (refine CallV.fun_ (h2) (by first | rfl | fail) (by first | assumption | (simp; done) | fail) (by first | (simp; done) | (simp; rfl) | fail) (by first | (simp; done) | fail) ?_ <;> (try simp))
    | (refine CallP.fun_ (h2) (by first | rfl | fail) (by first | assumption | (simp; done) | fail) (by first | (simp; done) | (simp; rfl) | fail) (by first | (simp; done) | fail) (fun d hd => ?_); subst hd; (try simp))
    | (refine CallV.fun_ (h3) (by first | rfl | fail) (by first | assumption | (simp; done) | fail) (by first | (simp; done) | (simp; rfl) | fail) (by first | (simp; done) | fail) ?_ <;> (try simp))
    | (refine CallP.fun_ (h3) (by first | rfl | fail) (by first | assumption | (simp; done) | fail) (by first | (simp; done) | (simp; rfl) | fail) (by first | (simp; done) | fail) (fun d hd => ?_); subst hd; (try simp))
    | (refine CallV.fun_ (h4) (by first | rfl | fail) (by first | assumption | (simp; done) | fail) (by first | (simp; done) | (simp; rfl) | fail) (by first | (simp; done) | fail) ?_ <;> (try simp))
    | (refine CallP.fun_ (h4) (by first | rfl | fail) (by first | assumption | (simp; done) | fail) (by first | (simp; done) | (simp; rfl) | fail) (by first | (simp; done) | fail) (fun d hd => ?_); subst hd; (try simp))
    | (refine CallV.fun_ (h5) (by first | rfl | fail) (by first | assumption | (simp; done) | fail) (by first | (simp; done) | (simp; rfl) | fail) (by first | (simp; done) | fail) ?_ <;> (try simp))
    | (refine CallP.fun_ (h5) (by first | rfl | fail) (by first | assumption | (simp; done) | fail) (by first | (simp; done) | (simp; rfl) | fail) (by first | (simp; done) | fail) (fun d hd => ?_); subst hd; (try simp))
    | (refine CallV.fun_ (h6) (by first | rfl | fail) (by first | assumption | (simp; done) | fail) (by first | (simp; done) | (simp; rfl) | fail) (by first | (simp; done) | fail) ?_ <;> (try simp))
    | (refine CallP.fun_ (h6) (by first | rfl | fail) (by first | assumption | (simp; done) | fail) (by first | (simp; done) | (simp; rfl) | fail) (by first | (simp; done) | fail) (fun d hd => ?_); subst hd; (try simp)))
  all_goals try ((refine EndOK.val (.inr rfl) ?_; simp [resD, oneOrTup, pureD, Try.results6]); done)
  obtain ⟨hl10, hg10, hth⟩ := hthin (by first | assumption | (simp_all; done))
  obtain ⟨n, hn1⟩ : ∃ n, lets.length = n + 1 := ⟨lets.length - 1, by have := List.length_pos_iff.2 (show lets ≠ [] by first | assumption | (simp_all; done)); omega⟩
  obtain ⟨last, hlast⟩ : ∃ l, lets[n]? = some l := ⟨_, List.getElem?_eq_getElem (by omega)⟩
  refine V_loopF (α := { i : Nat // i ≤ lets.length }) [0, 1, 7, 8, 9, 11, 12, 13] (fun i => [(14, .u (.bool (U i.1))), (15, .u (.bool (T i.1))), (16, .u (.int .i64 i.1))]) (fun i => lets.length - i.1) ⟨0, by omega⟩ ?_ ?_
  · exact (Wk.cut rfl (by simp [hn]) (by simp [wkO, St.lp, getK_cons, getK, Ob.under, D.under, under_rowsD, under_entD]) (by simp [wkU, St.lp, keepE, getK_cons, getK, D.under]) (by simp [wkE, St.lp, keepE, getK_cons, getK] <;> (try (intros; simp_all; done)) <;> (try (intros; omega)) <;> (try grind)))
  rintro ⟨i, hi⟩
  simp [St.lp, St.only, keepE, getK_cons, getK]
  rcases hx : lets[i]? with _ | l
  · have hge : lets.length ≤ i := by simpa using hx
    obtain rfl : i = lets.length := by omega
    have hln : ∀ h : n < lets.length, lets[n]'h = last := fun h => (List.getElem?_eq_some_iff.1 hlast).2
    apply V_share (P := Try.prog) (Γ := Γ) (S := { n := 234, env := [(0, .u (letsU lets)), (1, .u (varsU given)), (7, .ptr 0 0), (11, .u (.bool true)), (12, .u (.int .i64 u)), (13, .u (.int .i64 bad)), (22, .ptr 1 0), (23, .u (.int .i64 0))], obs := [(0, .box (e.row.map .u)), (1, .box ([.u (.str last.name)] ++ last.body.row.map .u))], next := 2 })
    case main =>
      intro key
      have hmore1 := hmore
      have hspare1 := hspare
      have hshare1 := hshare
      have h9 := unitOf_fun lets (given ++ [more]) e
      have h10 := rightExp_fun spare.body
      have h11 := unitOf_fun (spare :: lets) given e
      have h12 := shareP_fun (spare :: lets) e
      have h13 := shareP_fun lets e
      generalize unitP lets (given ++ [more]) e = r9 at h9 hmore1
      generalize rightB 12 spare.body = r10 at h10 hspare1 hshare1
      generalize unitP (spare :: lets) given e = r11 at h11 hspare1
      generalize shareP (spare :: lets) e = r12 at h12 hshare1
      generalize shareP lets e = r13 at h13 hshare1
      obtain ⟨v9, w9⟩ := r9
      obtain ⟨v11, w11⟩ := r11
      simp only [eagg, letsU, varsU, List.map_append, List.map_cons, List.map_nil] at h9 h10 h11 h12 h13
      have hm : U lets.length = false → 0 ≤ more.unit → more.unit < 5 → v9 = u ∧ w9 = bad := fun h1 h2 h3 => by
        have := hmore1 (by simp [unitOK, h2, h3]) (hUe h1).1 (hUe h1).2
        simpa using this
      have hs : T lets.length = false → r10 = true → v11 = u ∧ w11 = bad ∧ r12 = r13 := fun h1 h2 => by
        have h3 := hspare1 h2 (by omega) (hTe h1).1 (hTe h1).2
        have h4 := hshare1 h2 (by omega) (hTe h1).1 (hTe h1).2
        simp only [Prod.mk.injEq] at h3
        exact ⟨h3.1, h3.2, h4⟩
      clear hmore1 hspare1 hshare1
      cases hUU : U lets.length <;> cases hTT : T lets.length <;> cases r10
      all_goals
        simp only [hUU, hTT, reduceCtorEq, forall_const, false_implies] at hm hs
        try
          obtain ⟨h1, h2, h3⟩ := hs
          replace h1 := h1.symm
          replace h2 := h2.symm
          subst h1 h2 h3
        repeat' (first
    | (refine H_cons ?_; simp [hx, hUU, hTT, hlast, Nat.add_comm 1])
    | (refine HD2_val rfl ?_; simp [hx, hUU, hTT, hlast, Nat.add_comm 1])
    | (refine HD_cons ?_; simp [hx, hUU, hTT, hlast, Nat.add_comm 1])
    | (refine HD2_chg rfl ?_; simp [hx, hUU, hTT, hlast, Nat.add_comm 1])
    | (refine H_nil ?_; simp [hx, hUU, hTT, hlast, Nat.add_comm 1])
    | (refine ⟨by omega, ?_⟩)
    | (refine V_sseq ?_; simp [hx, hUU, hTT, hlast, Nat.add_comm 1])
    | (refine V_scond ?_; simp [hx, hUU, hTT, hlast, Nat.add_comm 1])
    | (refine HD2_nil (hC _ (by kernel_rfl)) (hk _ ?_); clear hC hk C k; simp only [RK_seq, RK_seq_ret, RK_seq_exit, RK_blk, RK_blk_ret, RK_blk_exit, RK_loop, RK_loop_ret, RK_loop_exit, RK_done])
    | (refine HD_nil ?_)
    | (refine hk _ ?_; clear hk k; simp only [RK_seq, RK_seq_ret, RK_seq_exit, RK_blk, RK_blk_ret, RK_blk_exit, RK_loop, RK_loop_ret, RK_loop_exit, RK_done])
    | (refine V_drawV rfl (by kernel_rfl) (by kernel_rfl) fun k hk => ?_; simp [hx, hUU, hTT, hlast, Nat.add_comm 1])
    | (refine V_drawN rfl (by kernel_rfl) (by kernel_rfl) (by simp [hn]) fun C k hC hk => ?_; simp [hx, hUU, hTT, hlast, Nat.add_comm 1])
    | (refine HD3_val rfl ?_; simp [hx, hUU, hTT, hlast, Nat.add_comm 1])
    | (refine HD3_put ?_; simp [hx, hUU, hTT, hlast, Nat.add_comm 1])
    | (refine HD3_chg rfl rfl ?_; simp [hx, hUU, hTT, hlast, Nat.add_comm 1])
    | (refine HD3_nil (hC _ _ (by kernel_rfl) (by kernel_rfl)) (hk _ ?_); clear hC hk C k; simp only [RK_seq, RK_seq_ret, RK_seq_exit, RK_blk, RK_blk_ret, RK_blk_exit, RK_loop, RK_loop_ret, RK_loop_exit, RK_done]; simp [St.ins, insL, putE, getK_setOb, getK_cons])
    | (refine V_drawE rfl (by kernel_rfl) (by kernel_rfl) (by simp [hn]) fun C k hC hk => ?_; simp [hx, hUU, hTT, hlast, Nat.add_comm 1])
    | (refine HD_guardU rfl (by simp [hx, hUU, hTT, hlast, Nat.add_comm 1]) ?_; simp [hx, hUU, hTT, hlast, Nat.add_comm 1])
    | (refine HD_guard rfl (by simp [hx, hUU, hTT, hlast, Nat.add_comm 1]) (fun hc => ?_) (fun hc => ?_) <;> (try simp [hx, hUU, hTT, hlast, Nat.add_comm 1] at hc) <;> (try (exfalso; omega)) <;> (try simp [hx, hUU, hTT, hlast, Nat.add_comm 1]))
    | (refine HD2_guardU rfl (by simp [hx, hUU, hTT, hlast, Nat.add_comm 1]) ?_; simp [hx, hUU, hTT, hlast, Nat.add_comm 1])
    | (refine HD2_guard rfl (by simp [hx, hUU, hTT, hlast, Nat.add_comm 1]) (fun hc => ?_) (fun hc => ?_) <;> (try simp [hx, hUU, hTT, hlast, Nat.add_comm 1] at hc) <;> (try (exfalso; omega)) <;> (try simp [hx, hUU, hTT, hlast, Nat.add_comm 1]))
    | (refine V_sblock ?_; simp [hx, hUU, hTT, hlast, Nat.add_comm 1])
    | (refine V_sregion ?_; simp [hx, hUU, hTT, hlast, Nat.add_comm 1])
    | (refine V_ret ?_; simp only [RK_seq, RK_seq_ret, RK_seq_exit, RK_blk, RK_blk_ret, RK_blk_exit, RK_loop, RK_loop_ret, RK_loop_exit, RK_done])
    | (refine V_skip ?_; simp only [RK_seq, RK_seq_ret, RK_seq_exit, RK_blk, RK_blk_ret, RK_blk_exit, RK_loop, RK_loop_ret, RK_loop_exit, RK_done])
    | (refine V_exit ?_; simp [RK_seq, RK_seq_ret, RK_seq_exit, RK_blk, RK_blk_ret, RK_blk_exit, RK_loop, RK_loop_ret, RK_loop_exit, RK_done])
    | (refine ⟨?_, by omega⟩)
    | (refine ⟨fun hc => ?_, fun hc => ?_⟩ <;> (try (exfalso; omega)))
    | (intro hc <;> (try (exfalso; omega)))
    | (refine CallV.fun_ (h9) (by first | rfl | fail) (by first | assumption | (simp; done) | fail) (by first | (simp [hx, hUU, hTT, hlast, Nat.add_comm 1]; done) | (simp [hx, hUU, hTT, hlast, Nat.add_comm 1]; rfl) | fail) (by first | (simp; done) | fail) ?_ <;> (try simp [hx, hUU, hTT, hlast, Nat.add_comm 1]))
    | (refine CallP.fun_ (h9) (by first | rfl | fail) (by first | assumption | (simp; done) | fail) (by first | (simp [hx, hUU, hTT, hlast, Nat.add_comm 1]; done) | (simp [hx, hUU, hTT, hlast, Nat.add_comm 1]; rfl) | fail) (by first | (simp; done) | fail) (fun d hd => ?_); subst hd; (try simp [hx, hUU, hTT, hlast, Nat.add_comm 1]))
    | (refine CallV.fun_ (h10) (by first | rfl | fail) (by first | assumption | (simp; done) | fail) (by first | (simp [hx, hUU, hTT, hlast, Nat.add_comm 1]; done) | (simp [hx, hUU, hTT, hlast, Nat.add_comm 1]; rfl) | fail) (by first | (simp; done) | fail) ?_ <;> (try simp [hx, hUU, hTT, hlast, Nat.add_comm 1]))
    | (refine CallP.fun_ (h10) (by first | rfl | fail) (by first | assumption | (simp; done) | fail) (by first | (simp [hx, hUU, hTT, hlast, Nat.add_comm 1]; done) | (simp [hx, hUU, hTT, hlast, Nat.add_comm 1]; rfl) | fail) (by first | (simp; done) | fail) (fun d hd => ?_); subst hd; (try simp [hx, hUU, hTT, hlast, Nat.add_comm 1]))
    | (refine CallV.fun_ (h11) (by first | rfl | fail) (by first | assumption | (simp; done) | fail) (by first | (simp [hx, hUU, hTT, hlast, Nat.add_comm 1]; done) | (simp [hx, hUU, hTT, hlast, Nat.add_comm 1]; rfl) | fail) (by first | (simp; done) | fail) ?_ <;> (try simp [hx, hUU, hTT, hlast, Nat.add_comm 1]))
    | (refine CallP.fun_ (h11) (by first | rfl | fail) (by first | assumption | (simp; done) | fail) (by first | (simp [hx, hUU, hTT, hlast, Nat.add_comm 1]; done) | (simp [hx, hUU, hTT, hlast, Nat.add_comm 1]; rfl) | fail) (by first | (simp; done) | fail) (fun d hd => ?_); subst hd; (try simp [hx, hUU, hTT, hlast, Nat.add_comm 1]))
    | (refine CallV.fun_ (h12) (by first | rfl | fail) (by first | assumption | (simp; done) | fail) (by first | (simp [hx, hUU, hTT, hlast, Nat.add_comm 1]; done) | (simp [hx, hUU, hTT, hlast, Nat.add_comm 1]; rfl) | fail) (by first | (simp; done) | fail) ?_ <;> (try simp [hx, hUU, hTT, hlast, Nat.add_comm 1]))
    | (refine CallP.fun_ (h12) (by first | rfl | fail) (by first | assumption | (simp; done) | fail) (by first | (simp [hx, hUU, hTT, hlast, Nat.add_comm 1]; done) | (simp [hx, hUU, hTT, hlast, Nat.add_comm 1]; rfl) | fail) (by first | (simp; done) | fail) (fun d hd => ?_); subst hd; (try simp [hx, hUU, hTT, hlast, Nat.add_comm 1]))
    | (refine CallV.fun_ (h13) (by first | rfl | fail) (by first | assumption | (simp; done) | fail) (by first | (simp [hx, hUU, hTT, hlast, Nat.add_comm 1]; done) | (simp [hx, hUU, hTT, hlast, Nat.add_comm 1]; rfl) | fail) (by first | (simp; done) | fail) ?_ <;> (try simp [hx, hUU, hTT, hlast, Nat.add_comm 1]))
    | (refine CallP.fun_ (h13) (by first | rfl | fail) (by first | assumption | (simp; done) | fail) (by first | (simp [hx, hUU, hTT, hlast, Nat.add_comm 1]; done) | (simp [hx, hUU, hTT, hlast, Nat.add_comm 1]; rfl) | fail) (by first | (simp; done) | fail) (fun d hd => ?_); subst hd; (try simp [hx, hUU, hTT, hlast, Nat.add_comm 1])))
      all_goals
        simp [hn1, hlast, hln]
        repeat' (first
    | (refine H_cons ?_; simp [hx, hlast, Nat.add_comm 1])
    | (refine HD2_val rfl ?_; simp [hx, hlast, Nat.add_comm 1])
    | (refine HD_cons ?_; simp [hx, hlast, Nat.add_comm 1])
    | (refine HD2_chg rfl ?_; simp [hx, hlast, Nat.add_comm 1])
    | (refine H_nil ?_; simp [hx, hlast, Nat.add_comm 1])
    | (refine ⟨by omega, ?_⟩)
    | (refine V_sseq ?_; simp [hx, hlast, Nat.add_comm 1])
    | (refine V_scond ?_; simp [hx, hlast, Nat.add_comm 1])
    | (refine HD2_nil (hC _ (by kernel_rfl)) (hk _ ?_); clear hC hk C k; simp only [RK_seq, RK_seq_ret, RK_seq_exit, RK_blk, RK_blk_ret, RK_blk_exit, RK_loop, RK_loop_ret, RK_loop_exit, RK_done])
    | (refine HD_nil ?_)
    | (refine hk _ ?_; clear hk k; simp only [RK_seq, RK_seq_ret, RK_seq_exit, RK_blk, RK_blk_ret, RK_blk_exit, RK_loop, RK_loop_ret, RK_loop_exit, RK_done])
    | (refine V_drawV rfl (by kernel_rfl) (by kernel_rfl) fun k hk => ?_; simp [hx, hlast, Nat.add_comm 1])
    | (refine V_drawN rfl (by kernel_rfl) (by kernel_rfl) (by simp [hn]) fun C k hC hk => ?_; simp [hx, hlast, Nat.add_comm 1])
    | (refine HD3_val rfl ?_; simp [hx, hlast, Nat.add_comm 1])
    | (refine HD3_put ?_; simp [hx, hlast, Nat.add_comm 1])
    | (refine HD3_chg rfl rfl ?_; simp [hx, hlast, Nat.add_comm 1])
    | (refine HD3_nil (hC _ _ (by kernel_rfl) (by kernel_rfl)) (hk _ ?_); clear hC hk C k; simp only [RK_seq, RK_seq_ret, RK_seq_exit, RK_blk, RK_blk_ret, RK_blk_exit, RK_loop, RK_loop_ret, RK_loop_exit, RK_done]; simp [St.ins, insL, putE, getK_setOb, getK_cons])
    | (refine V_drawE rfl (by kernel_rfl) (by kernel_rfl) (by simp [hn]) fun C k hC hk => ?_; simp [hx, hlast, Nat.add_comm 1])
    | (refine HD_guardU rfl (by simp [hx, hlast, Nat.add_comm 1]) ?_; simp [hx, hlast, Nat.add_comm 1])
    | (refine HD_guard rfl (by simp [hx, hlast, Nat.add_comm 1]) (fun hc => ?_) (fun hc => ?_) <;> (try simp [hx, hlast, Nat.add_comm 1] at hc) <;> (try (exfalso; omega)) <;> (try simp [hx, hlast, Nat.add_comm 1]))
    | (refine HD2_guardU rfl (by simp [hx, hlast, Nat.add_comm 1]) ?_; simp [hx, hlast, Nat.add_comm 1])
    | (refine HD2_guard rfl (by simp [hx, hlast, Nat.add_comm 1]) (fun hc => ?_) (fun hc => ?_) <;> (try simp [hx, hlast, Nat.add_comm 1] at hc) <;> (try (exfalso; omega)) <;> (try simp [hx, hlast, Nat.add_comm 1]))
    | (refine V_sblock ?_; simp [hx, hlast, Nat.add_comm 1])
    | (refine V_sregion ?_; simp [hx, hlast, Nat.add_comm 1])
    | (refine V_ret ?_; simp only [RK_seq, RK_seq_ret, RK_seq_exit, RK_blk, RK_blk_ret, RK_blk_exit, RK_loop, RK_loop_ret, RK_loop_exit, RK_done])
    | (refine V_skip ?_; simp only [RK_seq, RK_seq_ret, RK_seq_exit, RK_blk, RK_blk_ret, RK_blk_exit, RK_loop, RK_loop_ret, RK_loop_exit, RK_done])
    | (refine V_exit ?_; simp [RK_seq, RK_seq_ret, RK_seq_exit, RK_blk, RK_blk_ret, RK_blk_exit, RK_loop, RK_loop_ret, RK_loop_exit, RK_done])
    | (refine ⟨?_, by omega⟩)
    | (refine ⟨fun hc => ?_, fun hc => ?_⟩ <;> (try (exfalso; omega)))
    | (intro hc <;> (try (exfalso; omega))))
        refine V_wk _ ?_ key
        exact (Wk.auto _ (by simp [rhoL, idOf, St.lp, keepE, getK_cons, getK, getK_del, getK_setOb] <;> rfl) rfl (by simp [hn]) (by simp [rhoF, wkER, St.lp, keepE, getK_cons, getK, getK_del, getK_setOb, D.under, D.le, D.ren, Exp.row_eq, letsU, varsU] <;> (try (intros; simp_all; done)) <;> (try omega)) (by simp [rhoF, wkR, St.lp, getK_cons, getK, getK_del, getK_setOb, obR, leU, pureRow, pureRows, Ob.under, D.under, D.le, D.ren, Exp.row_eq, letsU, varsU] <;> (try (intros; simp_all; done)) <;> (try omega)) (by simp [rhoF]))
    case key =>
      have hkey := fun hgv hu hx hb => @hput last n hlast hn1 hgv hu hx hb
      have h20 := put_fun last.name last.body _ e (Nat.le_refl _) hth
      have h21 := uses_fun last.name _ last.body (Nat.le_refl _)
      have h22 := rightExp_fun (putS last.name last.body e)
      have h23 := unitOf_fun lets given (putS last.name last.body e)
      generalize putS last.name last.body e = x at h20 h22 h23 hkey
      generalize usesS last.name last.body = ub at h21 hkey
      generalize rightB 12 x = rx at h22 hkey
      generalize unitP lets given x = r23 at h23 hkey
      obtain ⟨v23, w23⟩ := r23
      simp only [eagg, letsU, varsU, Exp.row_eq, List.map_cons, List.map_nil, List.cons_append, List.nil_append] at h20 h21 h22 h23 ⊢
      refine V_loopF (α := { i : Nat // i ≤ given.length ∧ ∀ v ∈ given.take i, ¬ v.name = last.name }) [0, 1, 7, 11, 12, 13, 22] (fun i => [(23, .u (.int .i64 i.1))]) (fun i => given.length - i.1) ⟨0, by omega, by simp⟩ ?_ ?_
      · exact (Wk.cut rfl (by simp [hn]) (by simp [wkO, St.lp, getK_cons, getK, Ob.under, D.under, under_rowsD, under_entD]) (by simp [wkU, St.lp, keepE, getK_cons, getK, D.under]) (by simp [wkE, St.lp, keepE, getK_cons, getK] <;> (try (intros; simp_all; done)) <;> (try (intros; omega)) <;> (try grind)))
      rintro ⟨i, hig, hb⟩
      simp [St.lp, St.only, keepE, getK_cons, getK]
      rcases hy : given[i]? with _ | v
      · have hge : given.length ≤ i := by simpa using hy
        obtain rfl : i = given.length := by omega
        rw [List.take_length] at hb
        repeat' (first
    | (refine H_cons ?_; simp [hy])
    | (refine HD2_val rfl ?_; simp [hy])
    | (refine HD_cons ?_; simp [hy])
    | (refine HD2_chg rfl ?_; simp [hy])
    | (refine H_nil ?_; simp [hy])
    | (refine ⟨by omega, ?_⟩)
    | (refine V_sseq ?_; simp [hy])
    | (refine V_scond ?_; simp [hy])
    | (refine HD2_nil (hC _ (by kernel_rfl)) (hk _ ?_); clear hC hk C k; simp only [RK_seq, RK_seq_ret, RK_seq_exit, RK_blk, RK_blk_ret, RK_blk_exit, RK_loop, RK_loop_ret, RK_loop_exit, RK_done])
    | (refine HD_nil ?_)
    | (refine hk _ ?_; clear hk k; simp only [RK_seq, RK_seq_ret, RK_seq_exit, RK_blk, RK_blk_ret, RK_blk_exit, RK_loop, RK_loop_ret, RK_loop_exit, RK_done])
    | (refine V_drawV rfl (by kernel_rfl) (by kernel_rfl) fun k hk => ?_; simp [hy])
    | (refine V_drawN rfl (by kernel_rfl) (by kernel_rfl) (by simp [hn]) fun C k hC hk => ?_; simp [hy])
    | (refine HD3_val rfl ?_; simp [hy])
    | (refine HD3_put ?_; simp [hy])
    | (refine HD3_chg rfl rfl ?_; simp [hy])
    | (refine HD3_nil (hC _ _ (by kernel_rfl) (by kernel_rfl)) (hk _ ?_); clear hC hk C k; simp only [RK_seq, RK_seq_ret, RK_seq_exit, RK_blk, RK_blk_ret, RK_blk_exit, RK_loop, RK_loop_ret, RK_loop_exit, RK_done]; simp [St.ins, insL, putE, getK_setOb, getK_cons])
    | (refine V_drawE rfl (by kernel_rfl) (by kernel_rfl) (by simp [hn]) fun C k hC hk => ?_; simp [hy])
    | (refine HD_guardU rfl (by simp [hy]) ?_; simp [hy])
    | (refine HD_guard rfl (by simp [hy]) (fun hc => ?_) (fun hc => ?_) <;> (try simp [hy] at hc) <;> (try (exfalso; omega)) <;> (try simp [hy]))
    | (refine HD2_guardU rfl (by simp [hy]) ?_; simp [hy])
    | (refine HD2_guard rfl (by simp [hy]) (fun hc => ?_) (fun hc => ?_) <;> (try simp [hy] at hc) <;> (try (exfalso; omega)) <;> (try simp [hy]))
    | (refine V_sblock ?_; simp [hy])
    | (refine V_sregion ?_; simp [hy])
    | (refine V_ret ?_; simp only [RK_seq, RK_seq_ret, RK_seq_exit, RK_blk, RK_blk_ret, RK_blk_exit, RK_loop, RK_loop_ret, RK_loop_exit, RK_done])
    | (refine V_skip ?_; simp only [RK_seq, RK_seq_ret, RK_seq_exit, RK_blk, RK_blk_ret, RK_blk_exit, RK_loop, RK_loop_ret, RK_loop_exit, RK_done])
    | (refine V_exit ?_; simp [RK_seq, RK_seq_ret, RK_seq_exit, RK_blk, RK_blk_ret, RK_blk_exit, RK_loop, RK_loop_ret, RK_loop_exit, RK_done])
    | (refine ⟨?_, by omega⟩)
    | (refine ⟨fun hc => ?_, fun hc => ?_⟩ <;> (try (exfalso; omega)))
    | (intro hc <;> (try (exfalso; omega)))
    | (refine CallV.fun_ (h20) (by first | rfl | fail) (by first | assumption | (simp; done) | fail) (by first | (simp [hy]; done) | (simp [hy]; rfl) | fail) (by first | (simp; done) | fail) ?_ <;> (try simp [hy]))
    | (refine CallP.fun_ (h20) (by first | rfl | fail) (by first | assumption | (simp; done) | fail) (by first | (simp [hy]; done) | (simp [hy]; rfl) | fail) (by first | (simp; done) | fail) (fun d hd => ?_); subst hd; (try simp [hy]))
    | (refine CallV.fun_ (h21) (by first | rfl | fail) (by first | assumption | (simp; done) | fail) (by first | (simp [hy]; done) | (simp [hy]; rfl) | fail) (by first | (simp; done) | fail) ?_ <;> (try simp [hy]))
    | (refine CallP.fun_ (h21) (by first | rfl | fail) (by first | assumption | (simp; done) | fail) (by first | (simp [hy]; done) | (simp [hy]; rfl) | fail) (by first | (simp; done) | fail) (fun d hd => ?_); subst hd; (try simp [hy]))
    | (refine CallV.fun_ (h22) (by first | rfl | fail) (by first | assumption | (simp; done) | fail) (by first | (simp [hy]; done) | (simp [hy]; rfl) | fail) (by first | (simp; done) | fail) ?_ <;> (try simp [hy]))
    | (refine CallP.fun_ (h22) (by first | rfl | fail) (by first | assumption | (simp; done) | fail) (by first | (simp [hy]; done) | (simp [hy]; rfl) | fail) (by first | (simp; done) | fail) (fun d hd => ?_); subst hd; (try simp [hy]))
    | (refine CallV.fun_ (h23) (by first | rfl | fail) (by first | assumption | (simp; done) | fail) (by first | (simp [hy]; done) | (simp [hy]; rfl) | fail) (by first | (simp; done) | fail) ?_ <;> (try simp [hy]))
    | (refine CallP.fun_ (h23) (by first | rfl | fail) (by first | assumption | (simp; done) | fail) (by first | (simp [hy]; done) | (simp [hy]; rfl) | fail) (by first | (simp; done) | fail) (fun d hd => ?_); subst hd; (try simp [hy])))
        all_goals first
          | ((refine EndOK.val (.inr rfl) ?_; simp [resD, oneOrTup, pureD, Try.results6]); done)
          | (exfalso
             have h := hkey hb (by assumption) (by assumption) (by assumption)
             simp only [Prod.mk.injEq] at h
             omega)
          | (have h := hkey hb (by assumption) (by assumption) (by assumption)
             simp only [Prod.mk.injEq] at h
             (refine EndOK.val (.inr rfl) ?_; simp [resD, oneOrTup, pureD, Try.results6])
             omega)
      · have hlt : i < given.length := (List.getElem?_eq_some_iff.1 hy).1
        by_cases hv : v.name = last.name
        · repeat' (first
    | (refine H_cons ?_; simp [hy, hv])
    | (refine HD2_val rfl ?_; simp [hy, hv])
    | (refine HD_cons ?_; simp [hy, hv])
    | (refine HD2_chg rfl ?_; simp [hy, hv])
    | (refine H_nil ?_; simp [hy, hv])
    | (refine ⟨by omega, ?_⟩)
    | (refine V_sseq ?_; simp [hy, hv])
    | (refine V_scond ?_; simp [hy, hv])
    | (refine HD2_nil (hC _ (by kernel_rfl)) (hk _ ?_); clear hC hk C k; simp only [RK_seq, RK_seq_ret, RK_seq_exit, RK_blk, RK_blk_ret, RK_blk_exit, RK_loop, RK_loop_ret, RK_loop_exit, RK_done])
    | (refine HD_nil ?_)
    | (refine hk _ ?_; clear hk k; simp only [RK_seq, RK_seq_ret, RK_seq_exit, RK_blk, RK_blk_ret, RK_blk_exit, RK_loop, RK_loop_ret, RK_loop_exit, RK_done])
    | (refine V_drawV rfl (by kernel_rfl) (by kernel_rfl) fun k hk => ?_; simp [hy, hv])
    | (refine V_drawN rfl (by kernel_rfl) (by kernel_rfl) (by simp [hn]) fun C k hC hk => ?_; simp [hy, hv])
    | (refine HD3_val rfl ?_; simp [hy, hv])
    | (refine HD3_put ?_; simp [hy, hv])
    | (refine HD3_chg rfl rfl ?_; simp [hy, hv])
    | (refine HD3_nil (hC _ _ (by kernel_rfl) (by kernel_rfl)) (hk _ ?_); clear hC hk C k; simp only [RK_seq, RK_seq_ret, RK_seq_exit, RK_blk, RK_blk_ret, RK_blk_exit, RK_loop, RK_loop_ret, RK_loop_exit, RK_done]; simp [St.ins, insL, putE, getK_setOb, getK_cons])
    | (refine V_drawE rfl (by kernel_rfl) (by kernel_rfl) (by simp [hn]) fun C k hC hk => ?_; simp [hy, hv])
    | (refine HD_guardU rfl (by simp [hy, hv]) ?_; simp [hy, hv])
    | (refine HD_guard rfl (by simp [hy, hv]) (fun hc => ?_) (fun hc => ?_) <;> (try simp [hy, hv] at hc) <;> (try (exfalso; omega)) <;> (try simp [hy, hv]))
    | (refine HD2_guardU rfl (by simp [hy, hv]) ?_; simp [hy, hv])
    | (refine HD2_guard rfl (by simp [hy, hv]) (fun hc => ?_) (fun hc => ?_) <;> (try simp [hy, hv] at hc) <;> (try (exfalso; omega)) <;> (try simp [hy, hv]))
    | (refine V_sblock ?_; simp [hy, hv])
    | (refine V_sregion ?_; simp [hy, hv])
    | (refine V_ret ?_; simp only [RK_seq, RK_seq_ret, RK_seq_exit, RK_blk, RK_blk_ret, RK_blk_exit, RK_loop, RK_loop_ret, RK_loop_exit, RK_done])
    | (refine V_skip ?_; simp only [RK_seq, RK_seq_ret, RK_seq_exit, RK_blk, RK_blk_ret, RK_blk_exit, RK_loop, RK_loop_ret, RK_loop_exit, RK_done])
    | (refine V_exit ?_; simp [RK_seq, RK_seq_ret, RK_seq_exit, RK_blk, RK_blk_ret, RK_blk_exit, RK_loop, RK_loop_ret, RK_loop_exit, RK_done])
    | (refine ⟨?_, by omega⟩)
    | (refine ⟨fun hc => ?_, fun hc => ?_⟩ <;> (try (exfalso; omega)))
    | (intro hc <;> (try (exfalso; omega))))
          (refine EndOK.val (.inr rfl) ?_; simp [resD, oneOrTup, pureD, Try.results6])
        · repeat' (first
    | (refine H_cons ?_; simp [hy, hv])
    | (refine HD2_val rfl ?_; simp [hy, hv])
    | (refine HD_cons ?_; simp [hy, hv])
    | (refine HD2_chg rfl ?_; simp [hy, hv])
    | (refine H_nil ?_; simp [hy, hv])
    | (refine ⟨by omega, ?_⟩)
    | (refine V_sseq ?_; simp [hy, hv])
    | (refine V_scond ?_; simp [hy, hv])
    | (refine HD2_nil (hC _ (by kernel_rfl)) (hk _ ?_); clear hC hk C k; simp only [RK_seq, RK_seq_ret, RK_seq_exit, RK_blk, RK_blk_ret, RK_blk_exit, RK_loop, RK_loop_ret, RK_loop_exit, RK_done])
    | (refine HD_nil ?_)
    | (refine hk _ ?_; clear hk k; simp only [RK_seq, RK_seq_ret, RK_seq_exit, RK_blk, RK_blk_ret, RK_blk_exit, RK_loop, RK_loop_ret, RK_loop_exit, RK_done])
    | (refine V_drawV rfl (by kernel_rfl) (by kernel_rfl) fun k hk => ?_; simp [hy, hv])
    | (refine V_drawN rfl (by kernel_rfl) (by kernel_rfl) (by simp [hn]) fun C k hC hk => ?_; simp [hy, hv])
    | (refine HD3_val rfl ?_; simp [hy, hv])
    | (refine HD3_put ?_; simp [hy, hv])
    | (refine HD3_chg rfl rfl ?_; simp [hy, hv])
    | (refine HD3_nil (hC _ _ (by kernel_rfl) (by kernel_rfl)) (hk _ ?_); clear hC hk C k; simp only [RK_seq, RK_seq_ret, RK_seq_exit, RK_blk, RK_blk_ret, RK_blk_exit, RK_loop, RK_loop_ret, RK_loop_exit, RK_done]; simp [St.ins, insL, putE, getK_setOb, getK_cons])
    | (refine V_drawE rfl (by kernel_rfl) (by kernel_rfl) (by simp [hn]) fun C k hC hk => ?_; simp [hy, hv])
    | (refine HD_guardU rfl (by simp [hy, hv]) ?_; simp [hy, hv])
    | (refine HD_guard rfl (by simp [hy, hv]) (fun hc => ?_) (fun hc => ?_) <;> (try simp [hy, hv] at hc) <;> (try (exfalso; omega)) <;> (try simp [hy, hv]))
    | (refine HD2_guardU rfl (by simp [hy, hv]) ?_; simp [hy, hv])
    | (refine HD2_guard rfl (by simp [hy, hv]) (fun hc => ?_) (fun hc => ?_) <;> (try simp [hy, hv] at hc) <;> (try (exfalso; omega)) <;> (try simp [hy, hv]))
    | (refine V_sblock ?_; simp [hy, hv])
    | (refine V_sregion ?_; simp [hy, hv])
    | (refine V_ret ?_; simp only [RK_seq, RK_seq_ret, RK_seq_exit, RK_blk, RK_blk_ret, RK_blk_exit, RK_loop, RK_loop_ret, RK_loop_exit, RK_done])
    | (refine V_skip ?_; simp only [RK_seq, RK_seq_ret, RK_seq_exit, RK_blk, RK_blk_ret, RK_blk_exit, RK_loop, RK_loop_ret, RK_loop_exit, RK_done])
    | (refine V_exit ?_; simp [RK_seq, RK_seq_ret, RK_seq_exit, RK_blk, RK_blk_ret, RK_blk_exit, RK_loop, RK_loop_ret, RK_loop_exit, RK_done])
    | (refine ⟨?_, by omega⟩)
    | (refine ⟨fun hc => ?_, fun hc => ?_⟩ <;> (try (exfalso; omega)))
    | (intro hc <;> (try (exfalso; omega))))
          refine LoopW.next ⟨i + 1, by omega, take_succ_all' hy hb hv⟩ (by simp; omega) ?_
          exact (Wk.cut rfl (by simp [hn]) (by simp [wkO, St.lp, getK_cons, getK, Ob.under, D.under, under_rowsD, under_entD]) (by simp [wkU, St.lp, keepE, getK_cons, getK, D.under]) (by simp [wkE, St.lp, keepE, getK_cons, getK] <;> (try (intros; simp_all; done)) <;> (try (intros; omega)) <;> (try grind)))
  · have hlt : i < lets.length := (List.getElem?_eq_some_iff.1 hx).1
    have hU1 := hUn i l hx
    have hT1 := hTn i l hx
    have h7 := uses_fun more.name _ l.body (Nat.le_refl _)
    have h8 := uses_fun spare.name _ l.body (Nat.le_refl _)
    generalize usesS more.name l.body = a at h7 hU1
    generalize usesS spare.name l.body = b at h8 hT1
    simp only [eagg] at h7 h8
    cases hUi : U i <;> cases hTi : T i
    all_goals
      simp only [hUi, hTi, Bool.false_or, Bool.true_or] at hU1 hT1
      repeat' (first
    | (refine H_cons ?_; simp [hx, hUi, hTi])
    | (refine HD2_val rfl ?_; simp [hx, hUi, hTi])
    | (refine HD_cons ?_; simp [hx, hUi, hTi])
    | (refine HD2_chg rfl ?_; simp [hx, hUi, hTi])
    | (refine H_nil ?_; simp [hx, hUi, hTi])
    | (refine ⟨by omega, ?_⟩)
    | (refine V_sseq ?_; simp [hx, hUi, hTi])
    | (refine V_scond ?_; simp [hx, hUi, hTi])
    | (refine HD2_nil (hC _ (by kernel_rfl)) (hk _ ?_); clear hC hk C k; simp only [RK_seq, RK_seq_ret, RK_seq_exit, RK_blk, RK_blk_ret, RK_blk_exit, RK_loop, RK_loop_ret, RK_loop_exit, RK_done])
    | (refine HD_nil ?_)
    | (refine hk _ ?_; clear hk k; simp only [RK_seq, RK_seq_ret, RK_seq_exit, RK_blk, RK_blk_ret, RK_blk_exit, RK_loop, RK_loop_ret, RK_loop_exit, RK_done])
    | (refine V_drawV rfl (by kernel_rfl) (by kernel_rfl) fun k hk => ?_; simp [hx, hUi, hTi])
    | (refine V_drawN rfl (by kernel_rfl) (by kernel_rfl) (by simp [hn]) fun C k hC hk => ?_; simp [hx, hUi, hTi])
    | (refine HD3_val rfl ?_; simp [hx, hUi, hTi])
    | (refine HD3_put ?_; simp [hx, hUi, hTi])
    | (refine HD3_chg rfl rfl ?_; simp [hx, hUi, hTi])
    | (refine HD3_nil (hC _ _ (by kernel_rfl) (by kernel_rfl)) (hk _ ?_); clear hC hk C k; simp only [RK_seq, RK_seq_ret, RK_seq_exit, RK_blk, RK_blk_ret, RK_blk_exit, RK_loop, RK_loop_ret, RK_loop_exit, RK_done]; simp [St.ins, insL, putE, getK_setOb, getK_cons])
    | (refine V_drawE rfl (by kernel_rfl) (by kernel_rfl) (by simp [hn]) fun C k hC hk => ?_; simp [hx, hUi, hTi])
    | (refine HD_guardU rfl (by simp [hx, hUi, hTi]) ?_; simp [hx, hUi, hTi])
    | (refine HD_guard rfl (by simp [hx, hUi, hTi]) (fun hc => ?_) (fun hc => ?_) <;> (try simp [hx, hUi, hTi] at hc) <;> (try (exfalso; omega)) <;> (try simp [hx, hUi, hTi]))
    | (refine HD2_guardU rfl (by simp [hx, hUi, hTi]) ?_; simp [hx, hUi, hTi])
    | (refine HD2_guard rfl (by simp [hx, hUi, hTi]) (fun hc => ?_) (fun hc => ?_) <;> (try simp [hx, hUi, hTi] at hc) <;> (try (exfalso; omega)) <;> (try simp [hx, hUi, hTi]))
    | (refine V_sblock ?_; simp [hx, hUi, hTi])
    | (refine V_sregion ?_; simp [hx, hUi, hTi])
    | (refine V_ret ?_; simp only [RK_seq, RK_seq_ret, RK_seq_exit, RK_blk, RK_blk_ret, RK_blk_exit, RK_loop, RK_loop_ret, RK_loop_exit, RK_done])
    | (refine V_skip ?_; simp only [RK_seq, RK_seq_ret, RK_seq_exit, RK_blk, RK_blk_ret, RK_blk_exit, RK_loop, RK_loop_ret, RK_loop_exit, RK_done])
    | (refine V_exit ?_; simp [RK_seq, RK_seq_ret, RK_seq_exit, RK_blk, RK_blk_ret, RK_blk_exit, RK_loop, RK_loop_ret, RK_loop_exit, RK_done])
    | (refine ⟨?_, by omega⟩)
    | (refine ⟨fun hc => ?_, fun hc => ?_⟩ <;> (try (exfalso; omega)))
    | (intro hc <;> (try (exfalso; omega)))
    | (refine CallV.fun_ (h7) (by first | rfl | fail) (by first | assumption | (simp; done) | fail) (by first | (simp [hx, hUi, hTi]; done) | (simp [hx, hUi, hTi]; rfl) | fail) (by first | (simp; done) | fail) ?_ <;> (try simp [hx, hUi, hTi]))
    | (refine CallP.fun_ (h7) (by first | rfl | fail) (by first | assumption | (simp; done) | fail) (by first | (simp [hx, hUi, hTi]; done) | (simp [hx, hUi, hTi]; rfl) | fail) (by first | (simp; done) | fail) (fun d hd => ?_); subst hd; (try simp [hx, hUi, hTi]))
    | (refine CallV.fun_ (h8) (by first | rfl | fail) (by first | assumption | (simp; done) | fail) (by first | (simp [hx, hUi, hTi]; done) | (simp [hx, hUi, hTi]; rfl) | fail) (by first | (simp; done) | fail) ?_ <;> (try simp [hx, hUi, hTi]))
    | (refine CallP.fun_ (h8) (by first | rfl | fail) (by first | assumption | (simp; done) | fail) (by first | (simp [hx, hUi, hTi]; done) | (simp [hx, hUi, hTi]; rfl) | fail) (by first | (simp; done) | fail) (fun d hd => ?_); subst hd; (try simp [hx, hUi, hTi])))
      refine LoopW.next ⟨i + 1, by omega⟩ (by simp; omega) ?_
      exact (Wk.cut rfl (by simp [hn]) (by simp [wkO, St.lp, getK_cons, getK, Ob.under, D.under, under_rowsD, under_entD, hU1, hT1]) (by simp [wkU, St.lp, keepE, getK_cons, getK, D.under, hU1, hT1]) (by simp [wkE, St.lp, keepE, getK_cons, getK, hU1, hT1] <;> (try (intros; simp_all; done)) <;> (try (intros; omega)) <;> (try grind)))
end
theorem lets_lifted (os : Os) (started : os.Started) (H : Type) (enc : TypeId × Value → H) :
    ReturnsInHanded {} Try.checked os 6 .any (Rows.unitsLetsSpec.pre6 enc Try.prog Try.f6 Rows.unitsLetsRow.domain false) (Rows.unitsLetsSpec.post enc Try.prog Try.f6 false true false false) := by
  refine law_lifted (tb := 4) Try.own started (by kernel_rfl) Try.func6
    (ChangeSpec.witness6 (enc := enc) (C := Try.checked) false ⟨#[], #[.slice none 0 0, .slice none 0 0, .agg #[.int .i64 0, .int .i64 0, .int .i64 0, .string ⟨#[]⟩, .slice none 0 0], .agg #[.string ⟨#[]⟩, .int .i64 0, .int .i64 0], .agg #[.string ⟨#[]⟩, .int .i64 0, .int .i64 0, .int .i64 0, .string ⟨#[]⟩, .slice none 0 0]], []⟩ 8 (by kernel_rfl) (by kernel_rfl) (by kernel_rfl) (by kernel_rfl))
    Try.laidOut Try.seqs (by kernel_rfl) rfl (fun ds h => ?_) (by kernel_rfl) (by kernel_rfl) (fun us h => ?_)
  · match ds, h with
    | [_, _, _, _, _], _ => rfl
  · match us, h with
    | [a, b, c, d, f], h =>
      obtain ⟨h1, h2, h3, h4, h5, _⟩ := h
      obtain ⟨l, rfl⟩ := lets_of h1
      obtain ⟨vs, rfl⟩ := vars_of h2
      obtain ⟨r, rfl, h3r⟩ := h3.agg sf26
      obtain ⟨e, rfl⟩ := expU_of h3r
      obtain ⟨r, rfl, h4r⟩ := h4.agg sf52
      obtain ⟨v, rfl, _⟩ := var_of h4r
      obtain ⟨r, rfl, h5r⟩ := h5.agg sf43
      obtain ⟨p, rfl, _⟩ := let_of h5r
      exact lets_fun l vs e v p
theorem lets_holds : Rows.UnitsLetsSaid :=
  OpenClaim.holds_of_wide 6 Try.f6 rfl rfl rfl rfl rfl rfl rfl ⟨rfl, rfl, rfl, rfl, rfl⟩ rfl rfl rfl rfl rfl (by kernel_rfl) Try.func6 (by kernel_rfl)
    (of_decide_eq_true (by kernel_rfl)) (by unfold Func.isWrapper; first | (rw [if_pos (by decide +kernel)]; kernel_rfl) | (rw [if_neg (by decide +kernel)]; exact ⟨rfl, rfl⟩))
    (fun os started H enc _ => lets_lifted os started H enc)
end Go.Proofs.Ytehlmagdlkcifaa
