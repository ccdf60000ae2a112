/- Layer 13: Solve and Most: the walks of the program. -/
import Derived.Test.YtdkadmchdocjbaaDq
import Derived.Test.YtdkadmchdocjbaaDm
import Derived.Test.YtdkadmchdocjbaaVLZ
set_option linter.all false
set_option maxRecDepth 100000
set_option maxHeartbeats 8000000
set_option linter.all false
namespace Go.Proofs.Ytdkadmchdocjbaa
open Go Go.VL
attribute [local simp] HS hcons hstep evPure opd uOf putOK St.put St.at getK binD binI binS binB nilD aggD eqUs cmpK lookD lookR rangeD Go.VL.nextD entryD keyD valU keyU lookK mkV entD_nil lookK_entD updK_entD1 updK_entD2 updK_entD3 allUE allUE_entD makeMapD mapUpdD mapEff updK valM Key.kk shiftI arith unD convD pickD loadD cellsAt fieldAddrD fieldD indexAddrD indexD sliceD cutD lenD minmaxD nilCheckD buildD fillD cellsD isOne ones setAll mkAgg allU allocD boxD storeD St.add buildSliceD appendD rowsOf makeD setOb getK_setOb getK_del getK_cons stripL strip guardTmp entry chunks zcells valD argsV argsW argW argU1 argU0 argsU0 argsU1 calleeOf scalarD scalarU delAll effD St.effS RK_seq RK_seq_ret RK_seq_exit RK_blk RK_blk_ret RK_blk_exit RK_loop RK_loop_ret RK_loop_exit RK_done vs_seq vs_block vs_skip vs_label vs_exit vs_ret vs_cond vs_region vs_loop vs_draw vs_range vs_scope applyW mkD rdIds lentIds callOf calleeOf freeOp D.ids Op.operands Call.operands isEffOp makeIfD typeAssertD conc concs conc1 uOfV panicD IntKind.bits allU2 allU2_append List.take_of_length_le List.range_succ
attribute [local irreducible] V G H HD HD2 HD4 HD4h RetX RunK Eff CallP CallV EndOK Fun Ret FinOK LoopI LoopW EndW
theorem solve_ex (l : List Con) (n : Int) (hK : (n.toNat + 1) * (n.toNat * l.length) ≤ 3000000) : ∃ V C E, SolveSpec l n V C E ∧ Fun Try.prog 9 [.u (consU l), .u (.int .i64 n)] (· = .tup [.u (ints V), .u (ints C), .u (.int .i64 E)]) := by
  have h0 := right_fun l n
  by_cases hr : rightL l n = true
  case neg =>
    have hr2 : rightL l n = false := by simpa using hr
    rw [hr2] at h0
    refine ⟨_, _, _, solve_arg hr2, ?_⟩
    (refine Fun.of_bodyW Try.func9 rfl (by simp) fun Γ hn => ?_); simp only [entry, List.zipIdx_cons, List.zipIdx_nil, List.map_cons, List.map_nil, Nat.zero_add, Try.ntmps9]
    simp only [consU, ints] at h0 ⊢
    repeat' (first
    | (refine H_cons ?_; simp)
    | (refine H_nil ?_; simp)
    | (refine V_sseq ?_; simp)
    | (refine V_scond ?_; simp)
    | (refine V_ret ?_; simp only [RK_seq, RK_seq_ret, RK_seq_exit, RK_blk, RK_blk_ret, RK_blk_exit, RK_loop, RK_loop_ret, RK_loop_exit, RK_done])
    | (refine CallP.fun_ (h0) (by first | rfl | fail) (by first | assumption | (simp; done) | fail) (by first | (simp; done) | (simp; rfl) | fail) (by first | (simp; done) | fail) (fun d hd => ?_); subst hd; (try simp))
    | fail)
    refine EndW.norm (EndW.here ?_)
    (refine EndOK.val (.inr rfl) ?_; simp [resD, oneOrTup, pureD, Try.results9, frz_obs, frz_env, norm_obs, norm_env, frz, frzOb, frzS, fv, fzVec, fzMap, fzBox, frzObS, frz_entD, frz_rowsD, normD, normU, norm1, normOb])
  rw [hr] at h0
  obtain ⟨e1, e2, e3, e4⟩ := rightL_out hr
  generalize hN : n.toNat = m at e1 e2 e4 hK
  subst e1
  have h1 := every_fun m (by omega)
  have h2 := newSearch_ret m l (bgAll m) (everyL m) e2 e4 e3 (everyL_mem m) (by rw [everyL_len]; omega)
  have hout := runP_out (nxt := nextP) e4 nextP_mem nextP_len (m + 1) 0 (PI.zero e4 (everyL_mem m)) (by rw [everyL_len]; exact Nat.le_refl _) (fun h => by omega) (by omega)
  rcases hF : runP nextP l (m + 1) (GS.zero (bgAll m)) (everyL m) with ⟨gF, ret⟩
  have h3 := run_ret m l (bgAll m) (everyL m) gF ret e2 e4 e3 hK (by rw [everyL_len]; exact Nat.le_refl _) (everyL_mem m) hF
  rw [hF] at hout
  simp only [Nat.zero_add] at hout
  by_cases hret : ret = -1
  · refine ⟨_, _, _, solve_ok hr (hret ▸ hout) (Nat.le_refl _), ?_⟩
    have hneg : ret < 0 := by omega
    (refine Fun.of_bodyW Try.func9 rfl (by simp) fun Γ hn => ?_); simp only [entry, List.zipIdx_cons, List.zipIdx_nil, List.map_cons, List.map_nil, Nat.zero_add, Try.ntmps9]
    simp only [consU, ints, stOb, nats, List.map_map] at h0 h1 h2 h3 ⊢
    repeat' (first
    | (refine H_cons ?_; simp [hneg])
    | (refine H_nil ?_; simp [hneg])
    | (refine V_sseq ?_; simp [hneg])
    | (refine V_scond ?_; simp [hneg])
    | (refine V_ret ?_; simp only [RK_seq, RK_seq_ret, RK_seq_exit, RK_blk, RK_blk_ret, RK_blk_exit, RK_loop, RK_loop_ret, RK_loop_exit, RK_done])
    | (refine V_skip ?_; simp only [RK_seq, RK_seq_ret, RK_seq_exit, RK_blk, RK_blk_ret, RK_blk_exit, RK_loop, RK_loop_ret, RK_loop_exit, RK_done])
    | (refine CallP.fun_ (h0) (by first | rfl | fail) (by first | assumption | (simp; done) | fail) (by first | (simp [hneg]; done) | (simp [hneg]; rfl) | fail) (by first | (simp; done) | fail) (fun d hd => ?_); subst hd; (try simp [hneg]))
    | (refine CallP.fun_ (h1) (by first | rfl | fail) (by first | assumption | (simp; done) | fail) (by first | (simp [hneg]; done) | (simp [hneg]; rfl) | fail) (by first | (simp; done) | fail) (fun d hd => ?_); subst hd; (try simp [hneg]))
    | (refine CallP.ret0 (h2) (by rfl) (by first | assumption | simp) (by rfl) (by simp) ?_; rintro d o n' hn' ⟨rfl, rfl, rfl⟩; (try simp at hn'); (try simp [hneg]))
    | (refine CallP.ret_ (h3) (by rfl) (by first | assumption | simp) (by rfl) (by simp) ?_; rintro d o n' hn' ⟨rfl, rfl, rfl⟩; (try simp at hn'); (try simp [hneg]))
    | fail)
    refine EndW.wk _ (Wk.frz (e := 3) (sz := 1) 1 [] (us := (lst m gF.val).map fun z => [U.int .i64 z]) (by simp [getK_cons]) (intR_all _)) ?_
    simp [St.frz, St.frzS, frzS, fv, fzVec, frzObS, del, lst_len]
    refine EndW.norm (EndW.here ?_)
    (refine EndOK.val (.inr rfl) ?_; simp [resD, oneOrTup, pureD, Try.results9, frz_obs, frz_env, norm_obs, norm_env, frz, frzOb, frzS, fv, fzVec, fzMap, fzBox, frzObS, frz_entD, frz_rowsD, normD, normU, norm1, normOb, lst_len])
  · obtain ⟨ha, k, hk0, hkn, hak, hke, hkmin, hC⟩ := hout.circle (-1) e4 hret
    refine ⟨_, _, _, solve_bad hr hout hret hC, ?_⟩
    have hinv := hout.1
    obtain ⟨hret0, hretm⟩ : 0 ≤ ret ∧ ret < m := by
      rcases hout.2.2 with h | h
      · exact absurd h.1 hret
      · exact ⟨h.1, h.2.1⟩
    obtain ⟨R, rfl⟩ := Int.eq_ofNat_of_zero_le hret0
    simp only [Int.toNat_natCast] at ha hak hke hkmin hC ⊢
    have hum : it l gF m R < m := it_lt e4 m (by omega)
    generalize hu : it l gF m R = u at hak hke hkmin hC hum ⊢
    have hneg : ¬ (R : Int) < 0 := by omega
    have h4 := back_ret m 0 l (bgAll m) gF u u k e2 e4 e3 hinv hum hk0 hkn hak hke hkmin
    simp only [Nat.zero_add] at h4
    (refine Fun.of_bodyW Try.func9 rfl (by simp) fun Γ hn => ?_); simp only [entry, List.zipIdx_cons, List.zipIdx_nil, List.map_cons, List.map_nil, Nat.zero_add, Try.ntmps9]
    simp only [consU, ints, stOb, nats, List.map_map] at h0 h1 h2 h3 h4 ⊢
    repeat' (first
    | (refine H_cons ?_; simp [hneg])
    | (refine H_nil ?_; simp [hneg])
    | (refine V_sseq ?_; simp [hneg])
    | (refine V_scond ?_; simp [hneg])
    | (refine V_sblock ?_; simp [hneg])
    | (refine V_skip ?_; simp only [RK_seq, RK_seq_ret, RK_seq_exit, RK_blk, RK_blk_ret, RK_blk_exit, RK_loop, RK_loop_ret, RK_loop_exit, RK_done])
    | (refine CallP.fun_ (h0) (by first | rfl | fail) (by first | assumption | (simp; done) | fail) (by first | (simp [hneg]; done) | (simp [hneg]; rfl) | fail) (by first | (simp; done) | fail) (fun d hd => ?_); subst hd; (try simp [hneg]))
    | (refine CallP.fun_ (h1) (by first | rfl | fail) (by first | assumption | (simp; done) | fail) (by first | (simp [hneg]; done) | (simp [hneg]; rfl) | fail) (by first | (simp; done) | fail) (fun d hd => ?_); subst hd; (try simp [hneg]))
    | (refine CallP.ret0 (h2) (by rfl) (by first | assumption | simp) (by rfl) (by simp) ?_; rintro d o n' hn' ⟨rfl, rfl, rfl⟩; (try simp at hn'); (try simp [hneg]))
    | (refine CallP.ret_ (h3) (by rfl) (by first | assumption | simp) (by rfl) (by simp) ?_; rintro d o n' hn' ⟨rfl, rfl, rfl⟩; (try simp at hn'); (try simp [hneg]))
    | fail)
    refine V_loopF (α := { j : Nat // j ≤ m }) [0, 7, 28] (fun j => [(8, .u (.int .i64 (it l gF j.1 R))), (29, .u (.int .i64 j.1))]) (fun j => m - j.1) ⟨0, by omega⟩ ?_ ?_
    · exact (Wk.cut rfl (by simp [hn, St.lp]) (by simp [wkO, St.lp, getK_cons, getK, Ob.under, D.under, under_rowsD, under_entD, pure_intR, under_intR, pure_boolR, under_boolR, it]) (by simp [wkU, St.lp, keepE, getK_cons, getK, D.under, pure_intR, under_intR, pure_boolR, under_boolR, it]) (by simp [wkE, St.lp, keepE, getK_cons, getK, pure_intR, under_intR, pure_boolR, under_boolR, it] <;> (try (intros; simp_all; done)) <;> (try (intros; omega)) <;> (try grind)))
    rintro ⟨j, hj⟩
    simp [St.lp, St.only, keepE, getK_cons, getK]
    by_cases hji : j < m
    case pos =>
      have hxi : it l gF j R < m := it_lt e4 j (by omega)
      obtain ⟨I, c, q1, q2, q3, q4⟩ := back_at (-1) e4 hinv hxi (al_at ha hji)
      have q5 := it_succ l gF j R
      rw [← q5] at q3
      repeat' (first
    | (refine H_cons ?_; simp [hji, intR_len, intR_getE, lst_len, lst_getE, hxi, q1, q2, q3, q4])
    | (refine H_nil ?_; simp [hji, intR_len, intR_getE, lst_len, lst_getE, hxi, q1, q2, q3, q4])
    | (refine ⟨by omega, ?_⟩)
    | (refine V_sseq ?_; simp [hji, intR_len, intR_getE, lst_len, lst_getE, hxi, q1, q2, q3, q4])
    | (refine V_sregion ?_; simp [hji, intR_len, intR_getE, lst_len, lst_getE, hxi, q1, q2, q3, q4])
    | (refine V_skip ?_; simp only [RK_seq, RK_seq_ret, RK_seq_exit, RK_blk, RK_blk_ret, RK_blk_exit, RK_loop, RK_loop_ret, RK_loop_exit, RK_done])
    | fail)
      refine LoopW.next ⟨j + 1, by omega⟩ (by simp; omega) ?_
      exact (Wk.cut rfl (by simp [hn, St.lp]) (by simp [wkO, St.lp, getK_cons, getK, Ob.under, D.under, under_rowsD, under_entD, pure_intR, under_intR, pure_boolR, under_boolR]) (by simp [wkU, St.lp, keepE, getK_cons, getK, D.under, pure_intR, under_intR, pure_boolR, under_boolR]) (by simp [wkE, St.lp, keepE, getK_cons, getK, pure_intR, under_intR, pure_boolR, under_boolR] <;> (try (intros; simp_all; done)) <;> (try (intros; omega)) <;> (try grind)))
    obtain rfl : j = m := by omega
    rw [hu]
    repeat' (first
    | (refine H_cons ?_; simp [hji])
    | (refine H_nil ?_; simp [hji])
    | (refine V_sseq ?_; simp [hji])
    | (refine V_ret ?_; simp only [RK_seq, RK_seq_ret, RK_seq_exit, RK_blk, RK_blk_ret, RK_blk_exit, RK_loop, RK_loop_ret, RK_loop_exit, RK_done])
    | (refine V_exit ?_; simp [RK_seq, RK_seq_ret, RK_seq_exit, RK_blk, RK_blk_ret, RK_blk_exit, RK_loop, RK_loop_ret, RK_loop_exit, RK_done])
    | (refine CallP.ret_ (h4) (by rfl) (by first | assumption | simp) (by rfl) (by simp) ?_; rintro d o n' hn' ⟨rfl, rfl, rfl⟩; (try simp at hn'); (try simp [hji]))
    | fail)
    refine EndW.norm (EndW.here ?_)
    (refine EndOK.val (.inr rfl) ?_; simp [resD, oneOrTup, pureD, Try.results9, frz_obs, frz_env, norm_obs, norm_env, frz, frzOb, frzS, fv, fzVec, fzMap, fzBox, frzObS, frz_entD, frz_rowsD, normD, normU, norm1, normOb])
theorem frz_intR (σ : D → Option U) (l : List Int) : (intR l).map (fun r => r.map (frzS σ)) = intR l := by rw [← intR_rows]; exact frz_rowsD σ _
theorem frz_boolR (σ : D → Option U) (l : List Bool) : (boolR l).map (fun r => r.map (frzS σ)) = boolR l := by
  have h : boolR l = rowsD (l.map fun b => [U.bool b]) := by simp [rowsD, boolR]
  rw [h]; exact frz_rowsD σ _
theorem one_mem (m b : Nat) (hb : b < m) (x : Int) : x ∈ [(b : Int)] ↔ 0 ≤ x ∧ x < m ∧ bgOne b x.toNat = true := by
  simp only [List.mem_singleton, bgOne, decide_eq_true_eq]
  omega
theorem most_ex (l : List Con) (n a b : Int) (hK : (n.toNat + 1) * (n.toNat * l.length) ≤ 3000000) : ∃ M C E, MostSpec l n a b M C E ∧ Fun Try.prog 11 [.u (consU l), .u (.int .i64 n), .u (.int .i64 a), .u (.int .i64 b)] (· = .tup [.u (.int .i64 M), .u (ints C), .u (.int .i64 E)]) := by
  have h0 := right_fun l n
  by_cases hcond : condM l n a b = true
  case neg =>
    have hc2 : condM l n a b = false := by simpa using hcond
    refine ⟨_, _, _, most_arg hc2, ?_⟩
    simp only [condM, Bool.and_eq_true, decide_eq_true_eq] at hcond
    by_cases hr : rightL l n = true
    · rw [hr] at h0
      (refine Fun.of_bodyW Try.func11 rfl (by simp) fun Γ hn => ?_); simp only [entry, List.zipIdx_cons, List.zipIdx_nil, List.map_cons, List.map_nil, Nat.zero_add, Try.ntmps11]
      simp only [consU, ints] at h0 ⊢
      repeat' (first
    | (refine H_cons ?_; simp)
    | (refine H_nil ?_; simp)
    | (refine V_sseq ?_; simp)
    | (refine V_scond ?_; simp)
    | (refine V_ret ?_; simp only [RK_seq, RK_seq_ret, RK_seq_exit, RK_blk, RK_blk_ret, RK_blk_exit, RK_loop, RK_loop_ret, RK_loop_exit, RK_done])
    | (refine V_skip ?_; simp only [RK_seq, RK_seq_ret, RK_seq_exit, RK_blk, RK_blk_ret, RK_blk_exit, RK_loop, RK_loop_ret, RK_loop_exit, RK_done])
    | (refine ⟨fun hc => ?_, fun hc => ?_⟩ <;> (try (exfalso; omega)))
    | (refine CallP.fun_ (h0) (by first | rfl | fail) (by first | assumption | (simp; done) | fail) (by first | (simp; done) | (simp; rfl) | fail) (by first | (simp; done) | fail) (fun d hd => ?_); subst hd; (try simp))
    | fail)
      all_goals first
        | (exfalso; simp [hr] at hcond; omega)
        | (refine EndW.norm (EndW.here ?_); (refine EndOK.val (.inr rfl) ?_; simp [resD, oneOrTup, pureD, Try.results11, frz_obs, frz_env, norm_obs, norm_env, frz, frzOb, frzS, fv, fzVec, fzMap, fzBox, frzObS, frz_entD, frz_rowsD, normD, normU, norm1, normOb]); done)
    · have hr2 : rightL l n = false := by simpa using hr
      rw [hr2] at h0
      (refine Fun.of_bodyW Try.func11 rfl (by simp) fun Γ hn => ?_); simp only [entry, List.zipIdx_cons, List.zipIdx_nil, List.map_cons, List.map_nil, Nat.zero_add, Try.ntmps11]
      simp only [consU, ints] at h0 ⊢
      repeat' (first
    | (refine H_cons ?_; simp)
    | (refine H_nil ?_; simp)
    | (refine V_sseq ?_; simp)
    | (refine V_scond ?_; simp)
    | (refine V_ret ?_; simp only [RK_seq, RK_seq_ret, RK_seq_exit, RK_blk, RK_blk_ret, RK_blk_exit, RK_loop, RK_loop_ret, RK_loop_exit, RK_done])
    | (refine CallP.fun_ (h0) (by first | rfl | fail) (by first | assumption | (simp; done) | fail) (by first | (simp; done) | (simp; rfl) | fail) (by first | (simp; done) | fail) (fun d hd => ?_); subst hd; (try simp))
    | fail)
      refine EndW.norm (EndW.here ?_)
      (refine EndOK.val (.inr rfl) ?_; simp [resD, oneOrTup, pureD, Try.results11, frz_obs, frz_env, norm_obs, norm_env, frz, frzOb, frzS, fv, fzVec, fzMap, fzBox, frzObS, frz_entD, frz_rowsD, normD, normU, norm1, normOb])
  obtain ⟨hr, ha0, han, hb0, hbn⟩ := condM_out hcond
  obtain ⟨V, C, E, hspec, h1⟩ := solve_ex l n hK
  rw [hr] at h0
  obtain ⟨e1, e2, e3, e4⟩ := rightL_out hr
  generalize hN : n.toNat = m at e1 e2 e4 hK
  subst e1
  obtain ⟨A, rfl⟩ := Int.eq_ofNat_of_zero_le ha0
  obtain ⟨B, rfl⟩ := Int.eq_ofNat_of_zero_le hb0
  rcases hspec with ⟨hx, _⟩ | ⟨_, ⟨y, hgr, _, rfl, rfl, rfl⟩ | ⟨hun, rfl, rfl, _⟩⟩
  · rw [hr] at hx; cases hx
  · have hy := hgr.sol
    have hBm : B < m := by omega
    have hAm : A < m := by omega
    have h2 := newSearch_ret m l (bgOne B) [(B : Int)] e2 e4 e3 (one_mem m B hBm) (by simp)
    have hout := runP_out (nxt := nextP) e4 nextP_mem nextP_len (m + 1) 0 (PI.zero e4 (one_mem m B hBm)) (by simp; omega) (fun h => by omega) (by omega)
    rcases hF : runP nextP l (m + 1) (GS.zero (bgOne B)) [(B : Int)] with ⟨gF, ret⟩
    have h3 := run_ret m l (bgOne B) [(B : Int)] gF ret e2 e4 e3 hK (by simp; omega) (one_mem m B hBm) hF
    rw [hF] at hout
    simp only [Nat.zero_add] at hout
    obtain ⟨rfl, hfix⟩ := hout.feasible e4 hy
    have hinv := hout.1
    cases hka : gF.kn A with
    | false =>
      refine ⟨_, _, _, most_none hcond hy hout (Nat.le_refl _) hka, ?_⟩
      (refine Fun.of_bodyW Try.func11 rfl (by simp) fun Γ hn => ?_); simp only [entry, List.zipIdx_cons, List.zipIdx_nil, List.map_cons, List.map_nil, Nat.zero_add, Try.ntmps11]
      simp only [consU, ints, stOb, nats, List.map_map, List.map_cons, List.map_nil] at h0 h1 h2 h3 ⊢
      repeat' (first
    | (refine H_cons ?_; simp [ha0, han, hb0, hbn])
    | (refine H_nil ?_; simp [ha0, han, hb0, hbn])
    | (refine ⟨by omega, ?_⟩)
    | (refine V_sseq ?_; simp [ha0, han, hb0, hbn])
    | (refine V_scond ?_; simp [ha0, han, hb0, hbn])
    | (refine V_skip ?_; simp only [RK_seq, RK_seq_ret, RK_seq_exit, RK_blk, RK_blk_ret, RK_blk_exit, RK_loop, RK_loop_ret, RK_loop_exit, RK_done])
    | (refine ⟨?_, by omega⟩)
    | (intro hc <;> (try (exfalso; omega)))
    | (refine CallP.fun_ (h0) (by first | rfl | fail) (by first | assumption | (simp; done) | fail) (by first | (simp [ha0, han, hb0, hbn]; done) | (simp [ha0, han, hb0, hbn]; rfl) | fail) (by first | (simp; done) | fail) (fun d hd => ?_); subst hd; (try simp [ha0, han, hb0, hbn]))
    | (refine CallP.fun_ (h1) (by first | rfl | fail) (by first | assumption | (simp; done) | fail) (by first | (simp [ha0, han, hb0, hbn]; done) | (simp [ha0, han, hb0, hbn]; rfl) | fail) (by first | (simp; done) | fail) (fun d hd => ?_); subst hd; (try simp [ha0, han, hb0, hbn]))
    | fail)
      refine CallP_frzV (by first | rfl | fail) ?_
      simp [frzN, frz1, frz_env, frz_obs, St.frz, St.frzS, frzS, fv, fzVec, fzMap, fzBox, frzObS, frz_entD, frz_rowsD, del, frz, frzOb]
      refine CallP_wk (s' := { n := 75, env := [(45, .u (.sl [[.int .i64 B]])), (43, .u (.int .i64 m)), (42, .u (.sl (l.map fun c => [.int .i64 c.A, .int .i64 c.B, .int .i64 c.N]))), (2, .u (.int .i64 A)), (3, .u (.int .i64 B))], obs := [], next := 0 }) (Wk.cut rfl (by simp [hn, St.lp]) (by simp [wkO, St.lp, getK_cons, getK, Ob.under, D.under, under_rowsD, under_entD]) (by simp [wkU, St.lp, keepE, getK_cons, getK, D.under]) (by simp [wkE, St.lp, keepE, getK_cons, getK] <;> (try (intros; simp_all; done)) <;> (try (intros; omega)) <;> (try grind))) ?_
      repeat' (first
    | (refine H_cons ?_; simp)
    | (refine H_nil ?_; simp)
    | (refine V_sseq ?_; simp)
    | (refine CallP.ret0 (h2) (by rfl) (by first | assumption | simp) (by rfl) (by simp) ?_; rintro d o n' hn' ⟨rfl, rfl, rfl⟩; (try simp at hn'); (try simp))
    | fail)
      refine CallP_frzV (by first | rfl | fail) ?_
      simp [frzN, frz1, frz_env, frz_obs, St.frz, St.frzS, frzS, fv, fzVec, fzMap, fzBox, frzObS, frz_entD, frz_rowsD, frz_intR, frz_boolR, del, frz, frzOb]
      refine CallP_wk (s' := { n := 75, env := [(49, .u (.sl [[.int .i64 B]])), (47, .ptr 5 0), (14, .ptr 5 0), (2, .u (.int .i64 A)), (3, .u (.int .i64 B))], obs := [(5, .box [.u (.sl (l.map fun c => [.int .i64 c.A, .int .i64 c.B, .int .i64 c.N])), .u (.sl ((List.range m).map fun v => [.sl ((fromS l v).map ((fun n => [U.int .i64 n]) ∘ Int.ofNat))])), .vec 1 m, .vec 3 m, .vec 4 m]), (1, .vec 3 1 (intR (lst m (GS.zero (bgOne B)).val))), (3, .vec 3 1 (intR (lst m (preI (-1) (GS.zero (bgOne B)))))), (4, .vec 4 1 (boolR (bst m (GS.zero (bgOne B)).kn)))], next := 6 }) (Wk.cut rfl (by simp [hn, St.lp]) (by simp [wkO, St.lp, getK_cons, getK, Ob.under, D.under, under_rowsD, under_entD, pure_intR, under_intR, pure_boolR, under_boolR]) (by simp [wkU, St.lp, keepE, getK_cons, getK, D.under, pure_intR, under_intR, pure_boolR, under_boolR]) (by simp [wkE, St.lp, keepE, getK_cons, getK, pure_intR, under_intR, pure_boolR, under_boolR] <;> (try (intros; simp_all; done)) <;> (try (intros; omega)) <;> (try grind))) ?_
      repeat' (first
    | (refine H_cons ?_; simp [boolR_len, boolR_getE, bst_len, bst_getE, hAm, hka])
    | (refine H_nil ?_; simp [boolR_len, boolR_getE, bst_len, bst_getE, hAm, hka])
    | (refine V_sseq ?_; simp [boolR_len, boolR_getE, bst_len, bst_getE, hAm, hka])
    | (refine V_scond ?_; simp [boolR_len, boolR_getE, bst_len, bst_getE, hAm, hka])
    | (refine V_ret ?_; simp only [RK_seq, RK_seq_ret, RK_seq_exit, RK_blk, RK_blk_ret, RK_blk_exit, RK_loop, RK_loop_ret, RK_loop_exit, RK_done])
    | (refine CallP.ret_ (h3) (by rfl) (by first | assumption | simp) (by rfl) (by simp) ?_; rintro d o n' hn' ⟨rfl, rfl, rfl⟩; (try simp at hn'); (try simp [boolR_len, boolR_getE, bst_len, bst_getE, hAm, hka]))
    | fail)
      refine EndW.norm (EndW.here ?_)
      (refine EndOK.val (.inr rfl) ?_; simp [resD, oneOrTup, pureD, Try.results11, frz_obs, frz_env, norm_obs, norm_env, frz, frzOb, frzS, fv, fzVec, fzMap, fzBox, frzObS, frz_entD, frz_rowsD, normD, normU, norm1, normOb])
    | true =>
      obtain ⟨hb0, hbv, hends⟩ := Fix.ends e4 hy hinv hfix
      obtain ⟨k, hkm, hal, hkb, hkmin⟩ := hends A hAm hka
      by_cases hAB : A = B
      · have hAB2 : (A : Int) = (B : Int) := by omega
        have h0k : k = 0 := by
          rcases Nat.eq_zero_or_pos k with h | h
          · exact h
          · exact absurd hAB (hkmin 0 h)
        subst h0k
        have hmo := most_some (-1) hcond hy e4 hout (Nat.le_refl _) hka hkm hal hkb
        have hkB : gF.kn B = true := hAB ▸ hka
        have hv0 : gF.val A = 0 := by rw [hAB]; exact hbv
        rw [hv0] at hmo
        refine ⟨_, _, _, hmo, ?_⟩
        simp only [pl, List.reverse_nil]
        (refine Fun.of_bodyW Try.func11 rfl (by simp) fun Γ hn => ?_); simp only [entry, List.zipIdx_cons, List.zipIdx_nil, List.map_cons, List.map_nil, Nat.zero_add, Try.ntmps11]
        simp only [consU, ints, stOb, nats, List.map_map, List.map_cons, List.map_nil] at h0 h1 h2 h3 ⊢
        repeat' (first
    | (refine H_cons ?_; simp [ha0, han, hb0, hbn])
    | (refine H_nil ?_; simp [ha0, han, hb0, hbn])
    | (refine ⟨by omega, ?_⟩)
    | (refine V_sseq ?_; simp [ha0, han, hb0, hbn])
    | (refine V_scond ?_; simp [ha0, han, hb0, hbn])
    | (refine V_skip ?_; simp only [RK_seq, RK_seq_ret, RK_seq_exit, RK_blk, RK_blk_ret, RK_blk_exit, RK_loop, RK_loop_ret, RK_loop_exit, RK_done])
    | (refine ⟨?_, by omega⟩)
    | (intro hc <;> (try (exfalso; omega)))
    | (refine CallP.fun_ (h0) (by first | rfl | fail) (by first | assumption | (simp; done) | fail) (by first | (simp [ha0, han, hb0, hbn]; done) | (simp [ha0, han, hb0, hbn]; rfl) | fail) (by first | (simp; done) | fail) (fun d hd => ?_); subst hd; (try simp [ha0, han, hb0, hbn]))
    | (refine CallP.fun_ (h1) (by first | rfl | fail) (by first | assumption | (simp; done) | fail) (by first | (simp [ha0, han, hb0, hbn]; done) | (simp [ha0, han, hb0, hbn]; rfl) | fail) (by first | (simp; done) | fail) (fun d hd => ?_); subst hd; (try simp [ha0, han, hb0, hbn]))
    | fail)
        refine CallP_frzV (by first | rfl | fail) ?_
        simp [frzN, frz1, frz_env, frz_obs, St.frz, St.frzS, frzS, fv, fzVec, fzMap, fzBox, frzObS, frz_entD, frz_rowsD, del, frz, frzOb]
        refine CallP_wk (s' := { n := 75, env := [(45, .u (.sl [[.int .i64 B]])), (43, .u (.int .i64 m)), (42, .u (.sl (l.map fun c => [.int .i64 c.A, .int .i64 c.B, .int .i64 c.N]))), (2, .u (.int .i64 A)), (3, .u (.int .i64 B))], obs := [], next := 0 }) (Wk.cut rfl (by simp [hn, St.lp]) (by simp [wkO, St.lp, getK_cons, getK, Ob.under, D.under, under_rowsD, under_entD]) (by simp [wkU, St.lp, keepE, getK_cons, getK, D.under]) (by simp [wkE, St.lp, keepE, getK_cons, getK] <;> (try (intros; simp_all; done)) <;> (try (intros; omega)) <;> (try grind))) ?_
        repeat' (first
    | (refine H_cons ?_; simp)
    | (refine H_nil ?_; simp)
    | (refine V_sseq ?_; simp)
    | (refine CallP.ret0 (h2) (by rfl) (by first | assumption | simp) (by rfl) (by simp) ?_; rintro d o n' hn' ⟨rfl, rfl, rfl⟩; (try simp at hn'); (try simp))
    | fail)
        refine CallP_frzV (by first | rfl | fail) ?_
        simp [frzN, frz1, frz_env, frz_obs, St.frz, St.frzS, frzS, fv, fzVec, fzMap, fzBox, frzObS, frz_entD, frz_rowsD, frz_intR, frz_boolR, del, frz, frzOb]
        refine CallP_wk (s' := { n := 75, env := [(49, .u (.sl [[.int .i64 B]])), (47, .ptr 5 0), (14, .ptr 5 0), (2, .u (.int .i64 A)), (3, .u (.int .i64 B))], obs := [(5, .box [.u (.sl (l.map fun c => [.int .i64 c.A, .int .i64 c.B, .int .i64 c.N])), .u (.sl ((List.range m).map fun v => [.sl ((fromS l v).map ((fun n => [U.int .i64 n]) ∘ Int.ofNat))])), .vec 1 m, .vec 3 m, .vec 4 m]), (1, .vec 3 1 (intR (lst m (GS.zero (bgOne B)).val))), (3, .vec 3 1 (intR (lst m (preI (-1) (GS.zero (bgOne B)))))), (4, .vec 4 1 (boolR (bst m (GS.zero (bgOne B)).kn)))], next := 6 }) (Wk.cut rfl (by simp [hn, St.lp]) (by simp [wkO, St.lp, getK_cons, getK, Ob.under, D.under, under_rowsD, under_entD, pure_intR, under_intR, pure_boolR, under_boolR]) (by simp [wkU, St.lp, keepE, getK_cons, getK, D.under, pure_intR, under_intR, pure_boolR, under_boolR]) (by simp [wkE, St.lp, keepE, getK_cons, getK, pure_intR, under_intR, pure_boolR, under_boolR] <;> (try (intros; simp_all; done)) <;> (try (intros; omega)) <;> (try grind))) ?_
        repeat' (first
    | (refine H_cons ?_; simp [boolR_len, boolR_getE, bst_len, bst_getE, hAm, hBm, hka, hkB, hAB2])
    | (refine H_nil ?_; simp [boolR_len, boolR_getE, bst_len, bst_getE, hAm, hBm, hka, hkB, hAB2])
    | (refine V_sseq ?_; simp [boolR_len, boolR_getE, bst_len, bst_getE, hAm, hBm, hka, hkB, hAB2])
    | (refine V_scond ?_; simp [boolR_len, boolR_getE, bst_len, bst_getE, hAm, hBm, hka, hkB, hAB2])
    | (refine V_ret ?_; simp only [RK_seq, RK_seq_ret, RK_seq_exit, RK_blk, RK_blk_ret, RK_blk_exit, RK_loop, RK_loop_ret, RK_loop_exit, RK_done])
    | (refine CallP.ret_ (h3) (by rfl) (by first | assumption | simp) (by rfl) (by simp) ?_; rintro d o n' hn' ⟨rfl, rfl, rfl⟩; (try simp at hn'); (try simp [boolR_len, boolR_getE, bst_len, bst_getE, hAm, hBm, hka, hkB, hAB2]))
    | fail)
        refine EndW.norm (EndW.here ?_)
        (refine EndOK.val (.inr rfl) ?_; simp [resD, oneOrTup, pureD, Try.results11, frz_obs, frz_env, norm_obs, norm_env, frz, frzOb, frzS, fv, fzVec, fzMap, fzBox, frzObS, frz_entD, frz_rowsD, normD, normU, norm1, normOb])
      · have hk0 : 0 < k := by
          rcases Nat.eq_zero_or_pos k with h | h
          · subst h; exact absurd hkb hAB
          · exact h
        refine ⟨_, _, _, most_some (-1) hcond hy e4 hout (Nat.le_refl _) hka hkm hal hkb, ?_⟩
        have h5 := fun nx' (h : 6 ≤ nx') => back_x m nx' h l (bgOne B) gF A B k e2 e4 e3 hinv hAm hk0 (by omega) hal hkb (fun j h1 h2 => hkmin j h2)
        simp only [consU, ints, stOb, nats, List.map_map] at h5
        have hAB2 : ¬ (A : Int) = (B : Int) := by omega
        have hAB3 : ¬ A = B := hAB
        (refine Fun.of_bodyW Try.func11 rfl (by simp) fun Γ hn => ?_); simp only [entry, List.zipIdx_cons, List.zipIdx_nil, List.map_cons, List.map_nil, Nat.zero_add, Try.ntmps11]
        simp only [consU, ints, stOb, nats, List.map_map, List.map_cons, List.map_nil] at h0 h1 h2 h3 ⊢
        repeat' (first
    | (refine H_cons ?_; simp [ha0, han, hb0, hbn])
    | (refine H_nil ?_; simp [ha0, han, hb0, hbn])
    | (refine ⟨by omega, ?_⟩)
    | (refine V_sseq ?_; simp [ha0, han, hb0, hbn])
    | (refine V_scond ?_; simp [ha0, han, hb0, hbn])
    | (refine V_skip ?_; simp only [RK_seq, RK_seq_ret, RK_seq_exit, RK_blk, RK_blk_ret, RK_blk_exit, RK_loop, RK_loop_ret, RK_loop_exit, RK_done])
    | (refine ⟨?_, by omega⟩)
    | (intro hc <;> (try (exfalso; omega)))
    | (refine CallP.fun_ (h0) (by first | rfl | fail) (by first | assumption | (simp; done) | fail) (by first | (simp [ha0, han, hb0, hbn]; done) | (simp [ha0, han, hb0, hbn]; rfl) | fail) (by first | (simp; done) | fail) (fun d hd => ?_); subst hd; (try simp [ha0, han, hb0, hbn]))
    | (refine CallP.fun_ (h1) (by first | rfl | fail) (by first | assumption | (simp; done) | fail) (by first | (simp [ha0, han, hb0, hbn]; done) | (simp [ha0, han, hb0, hbn]; rfl) | fail) (by first | (simp; done) | fail) (fun d hd => ?_); subst hd; (try simp [ha0, han, hb0, hbn]))
    | fail)
        refine CallP_frzV (by first | rfl | fail) ?_
        simp [frzN, frz1, frz_env, frz_obs, St.frz, St.frzS, frzS, fv, fzVec, fzMap, fzBox, frzObS, frz_entD, frz_rowsD, del, frz, frzOb]
        refine CallP_wk (s' := { n := 75, env := [(45, .u (.sl [[.int .i64 B]])), (43, .u (.int .i64 m)), (42, .u (.sl (l.map fun c => [.int .i64 c.A, .int .i64 c.B, .int .i64 c.N]))), (2, .u (.int .i64 A)), (3, .u (.int .i64 B))], obs := [], next := 0 }) (Wk.cut rfl (by simp [hn, St.lp]) (by simp [wkO, St.lp, getK_cons, getK, Ob.under, D.under, under_rowsD, under_entD]) (by simp [wkU, St.lp, keepE, getK_cons, getK, D.under]) (by simp [wkE, St.lp, keepE, getK_cons, getK] <;> (try (intros; simp_all; done)) <;> (try (intros; omega)) <;> (try grind))) ?_
        repeat' (first
    | (refine H_cons ?_; simp)
    | (refine H_nil ?_; simp)
    | (refine V_sseq ?_; simp)
    | (refine CallP.ret0 (h2) (by rfl) (by first | assumption | simp) (by rfl) (by simp) ?_; rintro d o n' hn' ⟨rfl, rfl, rfl⟩; (try simp at hn'); (try simp))
    | fail)
        refine CallP_frzV (by first | rfl | fail) ?_
        simp [frzN, frz1, frz_env, frz_obs, St.frz, St.frzS, frzS, fv, fzVec, fzMap, fzBox, frzObS, frz_entD, frz_rowsD, frz_intR, frz_boolR, del, frz, frzOb]
        refine CallP_wk (s' := { n := 75, env := [(49, .u (.sl [[.int .i64 B]])), (47, .ptr 5 0), (14, .ptr 5 0), (2, .u (.int .i64 A)), (3, .u (.int .i64 B))], obs := [(5, .box [.u (.sl (l.map fun c => [.int .i64 c.A, .int .i64 c.B, .int .i64 c.N])), .u (.sl ((List.range m).map fun v => [.sl ((fromS l v).map ((fun n => [U.int .i64 n]) ∘ Int.ofNat))])), .vec 1 m, .vec 3 m, .vec 4 m]), (1, .vec 3 1 (intR (lst m (GS.zero (bgOne B)).val))), (3, .vec 3 1 (intR (lst m (preI (-1) (GS.zero (bgOne B)))))), (4, .vec 4 1 (boolR (bst m (GS.zero (bgOne B)).kn)))], next := 6 }) (Wk.cut rfl (by simp [hn, St.lp]) (by simp [wkO, St.lp, getK_cons, getK, Ob.under, D.under, under_rowsD, under_entD, pure_intR, under_intR, pure_boolR, under_boolR]) (by simp [wkU, St.lp, keepE, getK_cons, getK, D.under, pure_intR, under_intR, pure_boolR, under_boolR]) (by simp [wkE, St.lp, keepE, getK_cons, getK, pure_intR, under_intR, pure_boolR, under_boolR] <;> (try (intros; simp_all; done)) <;> (try (intros; omega)) <;> (try grind))) ?_
        repeat' (first
    | (refine HD4_okR (fun nx' h' => h5 nx' (by simp at h'; omega)) (by first | (simp [intR_len, intR_getE, lst_len, lst_getE, boolR_len, boolR_getE, bst_len, bst_getE, hAm, hka, hAB2, hAB3, under_intR, under_boolR, pure_intR, pure_boolR, getK_cons, getK, getK_append, getK_del, getK_setOb, applyW, del]; done) | fail) (by first | (simp [intR_len, intR_getE, lst_len, lst_getE, boolR_len, boolR_getE, bst_len, bst_getE, hAm, hka, hAB2, hAB3, under_intR, under_boolR, pure_intR, pure_boolR]; done) | fail) (by rfl) (by first | assumption | (simp; done) | fail) (by rfl) (by first | (simp [intR_len, intR_getE, lst_len, lst_getE, boolR_len, boolR_getE, bst_len, bst_getE, hAm, hka, hAB2, hAB3, under_intR, under_boolR, pure_intR, pure_boolR, D.under, Ob.under, under_rowsD, under_entD]; done) | (simp [intR_len, intR_getE, lst_len, lst_getE, boolR_len, boolR_getE, bst_len, bst_getE, hAm, hka, hAB2, hAB3, under_intR, under_boolR, pure_intR, pure_boolR, D.under, Ob.under, under_rowsD, under_entD]; omega) | fail) (by simp) ?_; (try simp [intR_len, intR_getE, lst_len, lst_getE, boolR_len, boolR_getE, bst_len, bst_getE, hAm, hka, hAB2, hAB3, under_intR, under_boolR, pure_intR, pure_boolR]))
    | (refine H_cons ?_; simp [intR_len, intR_getE, lst_len, lst_getE, boolR_len, boolR_getE, bst_len, bst_getE, hAm, hka, hAB2, hAB3, under_intR, under_boolR, pure_intR, pure_boolR])
    | (refine HD4_val rfl ?_; simp [intR_len, intR_getE, lst_len, lst_getE, boolR_len, boolR_getE, bst_len, bst_getE, hAm, hka, hAB2, hAB3, under_intR, under_boolR, pure_intR, pure_boolR])
    | (refine H_nil ?_; simp [intR_len, intR_getE, lst_len, lst_getE, boolR_len, boolR_getE, bst_len, bst_getE, hAm, hka, hAB2, hAB3, under_intR, under_boolR, pure_intR, pure_boolR])
    | (refine V_sseq ?_; simp [intR_len, intR_getE, lst_len, lst_getE, boolR_len, boolR_getE, bst_len, bst_getE, hAm, hka, hAB2, hAB3, under_intR, under_boolR, pure_intR, pure_boolR])
    | (refine V_scond ?_; simp [intR_len, intR_getE, lst_len, lst_getE, boolR_len, boolR_getE, bst_len, bst_getE, hAm, hka, hAB2, hAB3, under_intR, under_boolR, pure_intR, pure_boolR])
    | (refine HD4_nil (hC _ (by kernel_rfl)) (hk _ ?_); clear hC hk C k; simp only [RK_seq, RK_seq_ret, RK_seq_exit, RK_blk, RK_blk_ret, RK_blk_exit, RK_loop, RK_loop_ret, RK_loop_exit, RK_done])
    | (refine V_drawX rfl (by kernel_rfl) (by first | (simp [hn]; done) | (simp [hn]; omega) | fail) fun C k hC hk => ?_; simp [intR_len, intR_getE, lst_len, lst_getE, boolR_len, boolR_getE, bst_len, bst_getE, hAm, hka, hAB2, hAB3, under_intR, under_boolR, pure_intR, pure_boolR])
    | (refine V_ret ?_; simp only [RK_seq, RK_seq_ret, RK_seq_exit, RK_blk, RK_blk_ret, RK_blk_exit, RK_loop, RK_loop_ret, RK_loop_exit, RK_done])
    | (refine V_skip ?_; simp only [RK_seq, RK_seq_ret, RK_seq_exit, RK_blk, RK_blk_ret, RK_blk_exit, RK_loop, RK_loop_ret, RK_loop_exit, RK_done])
    | (refine CallP.ret_ (h3) (by rfl) (by first | assumption | simp) (by rfl) (by simp) ?_; rintro d o n' hn' ⟨rfl, rfl, rfl⟩; (try simp at hn'); (try simp [intR_len, intR_getE, lst_len, lst_getE, boolR_len, boolR_getE, bst_len, bst_getE, hAm, hka, hAB2, hAB3, under_intR, under_boolR, pure_intR, pure_boolR]))
    | fail)
        refine EndW.norm (EndW.here ?_)
        (refine EndOK.val (.inr rfl) ?_; simp [resD, oneOrTup, pureD, Try.results11, frz_obs, frz_env, norm_obs, norm_env, frz, frzOb, frzS, fv, fzVec, fzMap, fzBox, frzObS, frz_entD, frz_rowsD, normD, normU, norm1, normOb])
  · refine ⟨_, _, _, most_bad hcond hun, ?_⟩
    (refine Fun.of_bodyW Try.func11 rfl (by simp) fun Γ hn => ?_); simp only [entry, List.zipIdx_cons, List.zipIdx_nil, List.map_cons, List.map_nil, Nat.zero_add, Try.ntmps11]
    simp only [consU, ints] at h0 h1 ⊢
    repeat' (first
    | (refine H_cons ?_; simp [ha0, han, hb0, hbn])
    | (refine H_nil ?_; simp [ha0, han, hb0, hbn])
    | (refine ⟨by omega, ?_⟩)
    | (refine V_sseq ?_; simp [ha0, han, hb0, hbn])
    | (refine V_scond ?_; simp [ha0, han, hb0, hbn])
    | (refine V_ret ?_; simp only [RK_seq, RK_seq_ret, RK_seq_exit, RK_blk, RK_blk_ret, RK_blk_exit, RK_loop, RK_loop_ret, RK_loop_exit, RK_done])
    | (refine V_skip ?_; simp only [RK_seq, RK_seq_ret, RK_seq_exit, RK_blk, RK_blk_ret, RK_blk_exit, RK_loop, RK_loop_ret, RK_loop_exit, RK_done])
    | (refine ⟨?_, by omega⟩)
    | (intro hc <;> (try (exfalso; omega)))
    | (refine CallP.fun_ (h0) (by first | rfl | fail) (by first | assumption | (simp; done) | fail) (by first | (simp [ha0, han, hb0, hbn]; done) | (simp [ha0, han, hb0, hbn]; rfl) | fail) (by first | (simp; done) | fail) (fun d hd => ?_); subst hd; (try simp [ha0, han, hb0, hbn]))
    | (refine CallP.fun_ (h1) (by first | rfl | fail) (by first | assumption | (simp; done) | fail) (by first | (simp [ha0, han, hb0, hbn]; done) | (simp [ha0, han, hb0, hbn]; rfl) | fail) (by first | (simp; done) | fail) (fun d hd => ?_); subst hd; (try simp [ha0, han, hb0, hbn]))
    | fail)
    refine EndW.norm (EndW.here ?_)
    (refine EndOK.val (.inr rfl) ?_; simp [resD, oneOrTup, pureD, Try.results11, frz_obs, frz_env, norm_obs, norm_env, frz, frzOb, frzS, fv, fzVec, fzMap, fzBox, frzObS, frz_entD, frz_rowsD, normD, normU, norm1, normOb])
end Go.Proofs.Ytdkadmchdocjbaa
