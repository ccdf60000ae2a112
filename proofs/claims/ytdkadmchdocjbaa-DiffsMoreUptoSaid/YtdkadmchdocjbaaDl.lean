/- Layer 13: the reference: Solve: the walk. -/
import Derived.Test.YtdkadmchdocjbaaDk
set_option linter.all false
set_option maxRecDepth 100000
set_option maxHeartbeats 8000000
set_option linter.all false
namespace Go.Proofs.Ytdkadmchdocjbaa
open Go Go.VL
theorem intR_lenR (l : List Int) : lenR 1 (intR l) := by simp [intR]
theorem it_succ (l : List Con) (g : GS) (k x : Nat) : it l g (k + 1) x = bk l g (it l g k x) := it_add l g k 1 x
theorem fill_true (n i : Nat) : bst n (fun j => decide (j = i) || decide (j < i)) = bst n fun j => decide (j < i + 1) := by
  unfold bst
  refine List.map_congr_left fun x _ => ?_
  by_cases h : x = i
  · simp [h]
  · by_cases h2 : x < i
    · simp [h2]; omega
    · simp [h, h2]; omega
theorem fill_why (n i : Nat) : lst n (fun j => if j = i then -1 else if j < i then -1 else 0) = lst n fun j => if j < i + 1 then -1 else 0 := by
  refine lst_ext fun x _ => ?_
  by_cases h : x < i + 1
  · rw [if_pos h]
    by_cases h2 : x = i
    · rw [if_pos h2]
    · rw [if_neg h2, if_pos (by omega)]
  · rw [if_neg h, if_neg (by omega), if_neg (by omega)]
theorem zero_kn (n : Nat) : bst n (fun j => decide (j < n)) = bst n (GS.zero (bgAll n)).kn := rfl
theorem zero_pre (n : Nat) : lst n (fun j => if j < n then (-1 : Int) else 0) = lst n (preI (-1) (GS.zero (bgAll n))) := lst_ext fun x hx => by simp [preI, GS.zero, hx]
theorem zero_val (n : Nat) (bg : Nat → Bool) : List.replicate n (0 : Int) = lst n (GS.zero bg).val := by rw [lst_rep]; rfl
theorem stR_bd {n : Nat} {l : List Con} {bg r t g L} (hl : OkC n l) (hll : l.length ≤ 2000) (h : SI n l bg r t g L) (ht : t ≤ 3000000) : ∀ i, i ≤ l.length → ∃ t, t ≤ 4000000 ∧ Bd t (stR l g i).1 := fun i hi => by
  obtain ⟨L', h1⟩ := SM.steps hl h i hi
  exact ⟨t + i, by omega, h1.bd⟩
/-- A step back, in the program's terms. -/
theorem back_at {n : Nat} {l : List Con} {bg : Nat → Bool} {g : GS} (d : Int) (hl : OkC n l) (hi : Inv l bg g) {x : Nat} (hx : x < n) (hp : g.pre x ≠ none) : ∃ (i : Nat) (c : Con), preI d g x = (i : Int) ∧ l[i]? = some c ∧ c.B = (bk l g x : Nat) ∧ i < l.length := by
  cases hq : g.pre x with
  | none => exact absurd hq hp
  | some i =>
    obtain ⟨c, h1, _⟩ := hi.pre x i hq
    obtain ⟨_, _, h3, _⟩ := hl c (List.mem_of_getElem? h1)
    refine ⟨i, c, by simp [preI, hq], h1, ?_, (List.getElem?_eq_some_iff.1 h1).1⟩
    rw [bk_of hq h1]
    simp only [Con.b]
    omega
attribute [local simp] hcons hstep evPure opd uOf putOK St.put St.at getK binD binI binS binB nilD aggD eqUs cmpK lookD lookR rangeD Go.VL.nextD entryD keyD valU keyU lookK mkV entD_nil lookK_entD updK_entD1 updK_entD2 updK_entD3 allUE allUE_entD makeMapD mapUpdD mapEff updK valM Key.kk shiftI arith unD convD pickD loadD cellsAt fieldAddrD fieldD indexAddrD indexD sliceD cutD lenD minmaxD nilCheckD buildD fillD cellsD isOne ones setAll mkAgg allU allocD boxD storeD St.add buildSliceD appendD rowsOf makeD setOb getK_setOb getK_del getK_cons stripL strip guardTmp entry chunks zcells valD argsV argsW argW argU1 argU0 argsU0 argsU1 calleeOf scalarD scalarU delAll effD St.effS RK_seq RK_seq_ret RK_seq_exit RK_blk RK_blk_ret RK_blk_exit RK_loop RK_loop_ret RK_loop_exit RK_done vs_seq vs_block vs_skip vs_label vs_exit vs_ret vs_cond vs_region vs_loop vs_draw vs_range vs_scope applyW mkD rdIds lentIds callOf calleeOf freeOp D.ids Op.operands Call.operands isEffOp makeIfD typeAssertD conc concs conc1 uOfV panicD IntKind.bits allU2 allU2_append List.take_of_length_le List.range_succ
attribute [local irreducible] V G H HD HD2 RunK Eff CallP CallV EndOK Fun Ret FinOK LoopI LoopW EndW
theorem rsolve_ex (l : List Con) (n : Int) : ∃ V C E, SolveSpec l n V C E ∧ Fun Try.prog 10 [.u (consU l), .u (.int .i64 n)] (· = .tup [.u (ints V), .u (ints C), .u (.int .i64 E)]) := by
  have h0 := rright_fun l n
  by_cases hr : rightL l n = true
  case neg =>
    have hr2 : rightL l n = false := by simpa using hr
    rw [hr2] at h0
    refine ⟨_, _, _, solve_arg hr2, ?_⟩
    (refine Fun.of_bodyW Try.func10 rfl (by simp) fun Γ hn => ?_); simp only [entry, List.zipIdx_cons, List.zipIdx_nil, List.map_cons, List.map_nil, Nat.zero_add, Try.ntmps10]
    simp only [consU, ints] at h0 ⊢
    repeat' (first
    | (refine H_cons ?_; simp)
    | (refine H_nil ?_; simp)
    | (refine V_sseq ?_; simp)
    | (refine V_scond ?_; simp)
    | (refine V_ret ?_; simp only [RK_seq, RK_seq_ret, RK_seq_exit, RK_blk, RK_blk_ret, RK_blk_exit, RK_loop, RK_loop_ret, RK_loop_exit, RK_done])
    | (refine CallP.fun_ (h0) (by first | rfl | fail) (by first | assumption | (simp; done) | fail) (by first | (simp; done) | (simp; rfl) | fail) (by first | (simp; done) | fail) (fun d hd => ?_); subst hd; (try simp))
    | fail)
    refine EndW.norm (EndW.here ?_)
    (refine EndOK.val (.inr rfl) ?_; simp [resD, oneOrTup, pureD, Try.results10, frz_obs, frz_env, norm_obs, norm_env, frz, frzOb, frzS, fv, fzVec, fzMap, fzBox, frzObS, frz_entD, frz_rowsD, normD, normU, norm1, normOb])
  have hr' := hr
  rw [hr] at h0
  obtain ⟨e1, e2, e3, e4⟩ := rightL_out hr
  generalize hN : n.toNat = m at e1 e2 e4
  subst e1
  have hout := loopR_out (bg := bgAll m) e4 (m + 1) 0 (SI.zero (bgAll m)) (by omega) (by omega)
  rcases hF : loopR l (m + 1) (GS.zero (bgAll m)) with ⟨gF, ret⟩
  rw [hF] at hout
  simp only [Nat.zero_add] at hout
  have hbt : (m + 1) * l.length ≤ (m + 1) * (m * l.length) := by
    rcases Nat.eq_zero_or_pos m with h | h
    · subst h
      cases l with
      | nil => simp
      | cons c l => have := e4 c (by simp); omega
    · exact Nat.mul_le_mul_left _ (by rw [Nat.mul_comm]; exact Nat.le_mul_of_pos_right _ h)
  have hm1 : ((m + 1 : Nat) : Int) = (m : Int) + 1 := by omega
  by_cases hret : ret = -1
  · refine ⟨_, _, _, solve_ok hr (hret ▸ hout) hbt, ?_⟩
    clear hbt hm1 hout
    (refine Fun.of_bodyW Try.func10 rfl (by simp) fun Γ hn => ?_); simp only [entry, List.zipIdx_cons, List.zipIdx_nil, List.map_cons, List.map_nil, Nat.zero_add, Try.ntmps10]
    simp only [consU, ints] at h0 ⊢
    repeat' (first
    | (refine H_cons ?_; simp [intR_rep, boolR_rep])
    | (refine H_nil ?_; simp [intR_rep, boolR_rep])
    | (refine ⟨by omega, ?_⟩)
    | (refine V_sseq ?_; simp [intR_rep, boolR_rep])
    | (refine V_scond ?_; simp [intR_rep, boolR_rep])
    | (refine V_sblock ?_; simp [intR_rep, boolR_rep])
    | (refine V_skip ?_; simp only [RK_seq, RK_seq_ret, RK_seq_exit, RK_blk, RK_blk_ret, RK_blk_exit, RK_loop, RK_loop_ret, RK_loop_exit, RK_done])
    | (refine CallP.fun_ (h0) (by first | rfl | fail) (by first | assumption | (simp; done) | fail) (by first | (simp [intR_rep, boolR_rep]; done) | (simp [intR_rep, boolR_rep]; rfl) | fail) (by first | (simp; done) | fail) (fun d hd => ?_); subst hd; (try simp [intR_rep, boolR_rep]))
    | fail)
    refine V_loopO (α := { i : Nat // i ≤ m }) [0, 1, 7, 8, 9] (fun i => [(10, .u (.int .i64 i.1))])
      (fun i => [(0, .vec 3 1 (intR (lst m (GS.zero (bgAll m)).val))), (1, .vec 4 1 (boolR (bst m fun j => decide (j < i.1)))), (2, .vec 3 1 (intR (lst m fun j => if j < i.1 then -1 else 0)))]) 3 (fun i => m - i.1) ⟨0, by omega⟩ ?_ ?_
    · have q1 := zero_val m (bgAll m)
      have q2 := bst_rep m false
      have q3 := lst_rep m 0
      exact (Wk.cut rfl (by simp [hn, St.lp]) (by simp [wkO, St.lp, getK_cons, getK, Ob.under, D.under, under_rowsD, under_entD, pure_intR, under_intR, pure_boolR, under_boolR, ← q1, ← q2, ← q3]) (by simp [wkU, St.lp, keepE, getK_cons, getK, D.under, pure_intR, under_intR, pure_boolR, under_boolR, ← q1, ← q2, ← q3]) (by simp [wkE, St.lp, keepE, getK_cons, getK, pure_intR, under_intR, pure_boolR, under_boolR, ← q1, ← q2, ← q3] <;> (try (intros; simp_all; done)) <;> (try (intros; omega)) <;> (try grind)))
    rintro ⟨i, hi⟩
    simp [St.lp, St.only, keepE, getK_cons, getK]
    by_cases hlt : i < m
    case pos =>
      have q1 := fill_true m i
      have q2 := fill_why m i
      repeat' (first
    | (refine H_cons ?_; simp [hlt, intR_len, intR_getE, intR_set, lst_len, lst_getE, lst_set, boolR_len, boolR_getE, boolR_set, bst_len, bst_getE, bst_set, q1, q2])
    | (refine H_nil ?_; simp [hlt, intR_len, intR_getE, intR_set, lst_len, lst_getE, lst_set, boolR_len, boolR_getE, boolR_set, bst_len, bst_getE, bst_set, q1, q2])
    | (refine ⟨by omega, ?_⟩)
    | (refine V_sseq ?_; simp [hlt, intR_len, intR_getE, intR_set, lst_len, lst_getE, lst_set, boolR_len, boolR_getE, boolR_set, bst_len, bst_getE, bst_set, q1, q2])
    | (refine V_scond ?_; simp [hlt, intR_len, intR_getE, intR_set, lst_len, lst_getE, lst_set, boolR_len, boolR_getE, boolR_set, bst_len, bst_getE, bst_set, q1, q2])
    | (refine V_sregion ?_; simp [hlt, intR_len, intR_getE, intR_set, lst_len, lst_getE, lst_set, boolR_len, boolR_getE, boolR_set, bst_len, bst_getE, bst_set, q1, q2])
    | (refine V_skip ?_; simp only [RK_seq, RK_seq_ret, RK_seq_exit, RK_blk, RK_blk_ret, RK_blk_exit, RK_loop, RK_loop_ret, RK_loop_exit, RK_done])
    | fail)
      refine LoopW.next ⟨i + 1, by omega⟩ (by simp; omega) ?_
      exact (Wk.cut rfl (by simp [hn, St.lp]) (by simp [wkO, St.lp, getK_cons, getK, Ob.under, D.under, under_rowsD, under_entD, pure_intR, under_intR, pure_boolR, under_boolR]) (by simp [wkU, St.lp, keepE, getK_cons, getK, D.under, pure_intR, under_intR, pure_boolR, under_boolR]) (by simp [wkE, St.lp, keepE, getK_cons, getK, pure_intR, under_intR, pure_boolR, under_boolR] <;> (try (intros; simp_all; done)) <;> (try (intros; omega)) <;> (try grind)))
    obtain rfl : i = m := by omega
    rw [zero_kn, zero_pre]
    repeat' (first
    | (refine H_cons ?_; simp [hlt])
    | (refine H_nil ?_; simp [hlt])
    | (refine V_sseq ?_; simp [hlt])
    | (refine V_scond ?_; simp [hlt])
    | (refine V_sblock ?_; simp [hlt])
    | (refine V_exit ?_; simp [RK_seq, RK_seq_ret, RK_seq_exit, RK_blk, RK_blk_ret, RK_blk_exit, RK_loop, RK_loop_ret, RK_loop_exit, RK_done])
    | fail)
    have q0 : loopR l (i + 1 - 0) (GS.zero (bgAll i)) = (gF, ret) := hF
    refine V_loopO (α := { s : Nat × GS × Int // (s.1 ≤ i ∧ (∃ t L, t ≤ s.1 * l.length ∧ SI i l (bgAll i) s.1 t s.2.1 L) ∧ loopR l (i + 1 - s.1) s.2.1 = (gF, ret)) ∨ (s.1 = i + 1 ∧ s.2.1 = gF ∧ s.2.2 = ret ∧ 0 ≤ ret) }) [0, 1, 7, 8, 9]
      (fun s => [(11, .u (.int .i64 s.1.2.2)), (12, .u (.int .i64 s.1.1))])
      (fun s => [(0, .vec 3 1 (intR (lst i s.1.2.1.val))), (1, .vec 4 1 (boolR (bst i s.1.2.1.kn))), (2, .vec 3 1 (intR (lst i (preI (-1) s.1.2.1))))]) 3 (fun s => i + 1 - s.1.1) ⟨(0, GS.zero (bgAll i), -1), .inl ⟨by omega, ⟨0, fun _ => 0, by simp, SI.zero _⟩, q0⟩⟩ ?_ ?_
    · exact (Wk.cut rfl (by simp [hn, St.lp]) (by simp [wkO, St.lp, getK_cons, getK, Ob.under, D.under, under_rowsD, under_entD, pure_intR, under_intR, pure_boolR, under_boolR]) (by simp [wkU, St.lp, keepE, getK_cons, getK, D.under, pure_intR, under_intR, pure_boolR, under_boolR]) (by simp [wkE, St.lp, keepE, getK_cons, getK, pure_intR, under_intR, pure_boolR, under_boolR] <;> (try (intros; simp_all; done)) <;> (try (intros; omega)) <;> (try grind)))
    rintro ⟨⟨r, g, last⟩, hs⟩
    simp only at hs
    simp [St.lp, St.only, keepE, getK_cons, getK]
    rcases hs with ⟨hr1, ⟨t, L, ht, hSI⟩, hfin⟩ | ⟨rfl, rfl, hlr, hret0⟩
    · skip
      have htl : r * l.length ≤ 200 * l.length := Nat.mul_le_mul_right _ (by omega)
      have hrx := relax_ret i l g (-1) e4 e3 (stR_bd e4 e3 hSI (by omega))
      simp only [consU] at hrx
      have hle : (r : Int) ≤ (i : Int) := by omega
      obtain ⟨f, hf⟩ : ∃ f, i + 1 - r = f + 1 := ⟨i - r, by omega⟩
      rw [hf, loopR] at hfin
      obtain ⟨L', hSM⟩ := hSI.sweep e4
      by_cases hlast : (sweepR l g).2 < 0
      · rw [if_pos (.inr hlast)] at hfin
        rw [hfin] at hrx hlast
        simp only at hrx hlast
        repeat' (first
    | (refine H_cons ?_; simp [hle, hlast])
    | (refine H_nil ?_; simp [hle, hlast])
    | (refine V_sseq ?_; simp [hle, hlast])
    | (refine V_scond ?_; simp [hle, hlast])
    | (refine V_ret ?_; simp only [RK_seq, RK_seq_ret, RK_seq_exit, RK_blk, RK_blk_ret, RK_blk_exit, RK_loop, RK_loop_ret, RK_loop_exit, RK_done])
    | (refine V_skip ?_; simp only [RK_seq, RK_seq_ret, RK_seq_exit, RK_blk, RK_blk_ret, RK_blk_exit, RK_loop, RK_loop_ret, RK_loop_exit, RK_done])
    | (refine CallP.ret_ (hrx) (by rfl) (by first | assumption | simp) (by rfl) (by simp) ?_; rintro d o n' hn' ⟨rfl, rfl, rfl⟩; (try simp at hn'); (try simp [hle, hlast]))
    | fail)
        refine EndW.wk _ (Wk.frz 0 [] (us := (lst i gF.val).map fun z => [U.int .i64 z]) rfl (intR_all _)) ?_
        simp [St.frz, St.frzS, frzS, fv, fzVec, frzObS, del]
        refine EndW.norm (EndW.here ?_)
        (refine EndOK.val (.inr rfl) ?_; simp [resD, oneOrTup, pureD, Try.results10, frz_obs, frz_env, norm_obs, norm_env, frz, frzOb, frzS, fv, fzVec, fzMap, fzBox, frzObS, frz_entD, frz_rowsD, normD, normU, norm1, normOb, lst_len])
      · have hf0 : ¬ f = 0 := fun hf0 => by
          rw [if_pos (.inl hf0)] at hfin
          rw [hfin] at hlast
          simp only at hlast
          omega
        rw [if_neg (by rintro (h | h); exact hf0 h; exact hlast h)] at hfin
        repeat' (first
    | (refine H_cons ?_; simp [hle, hlast])
    | (refine H_nil ?_; simp [hle, hlast])
    | (refine ⟨by omega, ?_⟩)
    | (refine V_sseq ?_; simp [hle, hlast])
    | (refine V_scond ?_; simp [hle, hlast])
    | (refine V_sregion ?_; simp [hle, hlast])
    | (refine V_skip ?_; simp only [RK_seq, RK_seq_ret, RK_seq_exit, RK_blk, RK_blk_ret, RK_blk_exit, RK_loop, RK_loop_ret, RK_loop_exit, RK_done])
    | (refine CallP.ret_ (hrx) (by rfl) (by first | assumption | simp) (by rfl) (by simp) ?_; rintro d o n' hn' ⟨rfl, rfl, rfl⟩; (try simp at hn'); (try simp [hle, hlast]))
    | fail)
        refine LoopW.next ⟨(r + 1, (sweepR l g).1, (sweepR l g).2), .inl ⟨by simp only; omega, ⟨_, L', by simp only; rw [Nat.succ_mul]; omega, hSM.fin⟩, by simp only; rw [show i + 1 - (r + 1) = f by omega]; exact hfin⟩⟩ (by simp; omega) ?_
        exact (Wk.cut rfl (by simp [hn, St.lp]) (by simp [wkO, St.lp, getK_cons, getK, Ob.under, D.under, under_rowsD, under_entD, pure_intR, under_intR, pure_boolR, under_boolR]) (by simp [wkU, St.lp, keepE, getK_cons, getK, D.under, pure_intR, under_intR, pure_boolR, under_boolR]) (by simp [wkE, St.lp, keepE, getK_cons, getK, pure_intR, under_intR, pure_boolR, under_boolR] <;> (try (intros; simp_all; done)) <;> (try (intros; omega)) <;> (try grind)))
    · omega
  · obtain ⟨ha, k, hk0, hkn, hak, hke, hkmin, hC⟩ := hout.circle (-1) e4 hret
    refine ⟨_, _, _, solve_bad hr hout hret hC, ?_⟩
    have hinv := hout.1
    obtain ⟨hret0, hretm⟩ : 0 ≤ ret ∧ ret < m := by
      rcases hout.2.2 with h | h
      · exact absurd h.1 hret
      · exact ⟨h.1, h.2.1⟩
    obtain ⟨R, hR⟩ := Int.eq_ofNat_of_zero_le hret0
    rw [show ret.toNat = R by omega] at ha hak hke hkmin hC ⊢
    have hum : it l gF m R < m := it_lt e4 m (by omega)
    generalize hu : it l gF m R = u at hak hke hkmin hC hum ⊢
    clear hbt hm1 hout hret
    (refine Fun.of_bodyW Try.func10 rfl (by simp) fun Γ hn => ?_); simp only [entry, List.zipIdx_cons, List.zipIdx_nil, List.map_cons, List.map_nil, Nat.zero_add, Try.ntmps10]
    simp only [consU, ints] at h0 ⊢
    repeat' (first
    | (refine H_cons ?_; simp [intR_rep, boolR_rep])
    | (refine H_nil ?_; simp [intR_rep, boolR_rep])
    | (refine ⟨by omega, ?_⟩)
    | (refine V_sseq ?_; simp [intR_rep, boolR_rep])
    | (refine V_scond ?_; simp [intR_rep, boolR_rep])
    | (refine V_sblock ?_; simp [intR_rep, boolR_rep])
    | (refine V_skip ?_; simp only [RK_seq, RK_seq_ret, RK_seq_exit, RK_blk, RK_blk_ret, RK_blk_exit, RK_loop, RK_loop_ret, RK_loop_exit, RK_done])
    | (refine CallP.fun_ (h0) (by first | rfl | fail) (by first | assumption | (simp; done) | fail) (by first | (simp [intR_rep, boolR_rep]; done) | (simp [intR_rep, boolR_rep]; rfl) | fail) (by first | (simp; done) | fail) (fun d hd => ?_); subst hd; (try simp [intR_rep, boolR_rep]))
    | fail)
    refine V_loopO (α := { i : Nat // i ≤ m }) [0, 1, 7, 8, 9] (fun i => [(10, .u (.int .i64 i.1))])
      (fun i => [(0, .vec 3 1 (intR (lst m (GS.zero (bgAll m)).val))), (1, .vec 4 1 (boolR (bst m fun j => decide (j < i.1)))), (2, .vec 3 1 (intR (lst m fun j => if j < i.1 then -1 else 0)))]) 3 (fun i => m - i.1) ⟨0, by omega⟩ ?_ ?_
    · have q1 := zero_val m (bgAll m)
      have q2 := bst_rep m false
      have q3 := lst_rep m 0
      exact (Wk.cut rfl (by simp [hn, St.lp]) (by simp [wkO, St.lp, getK_cons, getK, Ob.under, D.under, under_rowsD, under_entD, pure_intR, under_intR, pure_boolR, under_boolR, ← q1, ← q2, ← q3]) (by simp [wkU, St.lp, keepE, getK_cons, getK, D.under, pure_intR, under_intR, pure_boolR, under_boolR, ← q1, ← q2, ← q3]) (by simp [wkE, St.lp, keepE, getK_cons, getK, pure_intR, under_intR, pure_boolR, under_boolR, ← q1, ← q2, ← q3] <;> (try (intros; simp_all; done)) <;> (try (intros; omega)) <;> (try grind)))
    rintro ⟨i, hi⟩
    simp [St.lp, St.only, keepE, getK_cons, getK]
    by_cases hlt : i < m
    case pos =>
      have q1 := fill_true m i
      have q2 := fill_why m i
      repeat' (first
    | (refine H_cons ?_; simp [hlt, intR_len, intR_getE, intR_set, lst_len, lst_getE, lst_set, boolR_len, boolR_getE, boolR_set, bst_len, bst_getE, bst_set, q1, q2])
    | (refine H_nil ?_; simp [hlt, intR_len, intR_getE, intR_set, lst_len, lst_getE, lst_set, boolR_len, boolR_getE, boolR_set, bst_len, bst_getE, bst_set, q1, q2])
    | (refine ⟨by omega, ?_⟩)
    | (refine V_sseq ?_; simp [hlt, intR_len, intR_getE, intR_set, lst_len, lst_getE, lst_set, boolR_len, boolR_getE, boolR_set, bst_len, bst_getE, bst_set, q1, q2])
    | (refine V_scond ?_; simp [hlt, intR_len, intR_getE, intR_set, lst_len, lst_getE, lst_set, boolR_len, boolR_getE, boolR_set, bst_len, bst_getE, bst_set, q1, q2])
    | (refine V_sregion ?_; simp [hlt, intR_len, intR_getE, intR_set, lst_len, lst_getE, lst_set, boolR_len, boolR_getE, boolR_set, bst_len, bst_getE, bst_set, q1, q2])
    | (refine V_skip ?_; simp only [RK_seq, RK_seq_ret, RK_seq_exit, RK_blk, RK_blk_ret, RK_blk_exit, RK_loop, RK_loop_ret, RK_loop_exit, RK_done])
    | fail)
      refine LoopW.next ⟨i + 1, by omega⟩ (by simp; omega) ?_
      exact (Wk.cut rfl (by simp [hn, St.lp]) (by simp [wkO, St.lp, getK_cons, getK, Ob.under, D.under, under_rowsD, under_entD, pure_intR, under_intR, pure_boolR, under_boolR]) (by simp [wkU, St.lp, keepE, getK_cons, getK, D.under, pure_intR, under_intR, pure_boolR, under_boolR]) (by simp [wkE, St.lp, keepE, getK_cons, getK, pure_intR, under_intR, pure_boolR, under_boolR] <;> (try (intros; simp_all; done)) <;> (try (intros; omega)) <;> (try grind)))
    obtain rfl : i = m := by omega
    rw [zero_kn, zero_pre]
    repeat' (first
    | (refine H_cons ?_; simp [hlt])
    | (refine H_nil ?_; simp [hlt])
    | (refine V_sseq ?_; simp [hlt])
    | (refine V_scond ?_; simp [hlt])
    | (refine V_sblock ?_; simp [hlt])
    | (refine V_exit ?_; simp [RK_seq, RK_seq_ret, RK_seq_exit, RK_blk, RK_blk_ret, RK_blk_exit, RK_loop, RK_loop_ret, RK_loop_exit, RK_done])
    | fail)
    have q0 : loopR l (i + 1 - 0) (GS.zero (bgAll i)) = (gF, ret) := hF
    refine V_loopO (α := { s : Nat × GS × Int // (s.1 ≤ i ∧ (∃ t L, t ≤ s.1 * l.length ∧ SI i l (bgAll i) s.1 t s.2.1 L) ∧ loopR l (i + 1 - s.1) s.2.1 = (gF, ret)) ∨ (s.1 = i + 1 ∧ s.2.1 = gF ∧ s.2.2 = ret ∧ 0 ≤ ret) }) [0, 1, 7, 8, 9]
      (fun s => [(11, .u (.int .i64 s.1.2.2)), (12, .u (.int .i64 s.1.1))])
      (fun s => [(0, .vec 3 1 (intR (lst i s.1.2.1.val))), (1, .vec 4 1 (boolR (bst i s.1.2.1.kn))), (2, .vec 3 1 (intR (lst i (preI (-1) s.1.2.1))))]) 3 (fun s => i + 1 - s.1.1) ⟨(0, GS.zero (bgAll i), -1), .inl ⟨by omega, ⟨0, fun _ => 0, by simp, SI.zero _⟩, q0⟩⟩ ?_ ?_
    · exact (Wk.cut rfl (by simp [hn, St.lp]) (by simp [wkO, St.lp, getK_cons, getK, Ob.under, D.under, under_rowsD, under_entD, pure_intR, under_intR, pure_boolR, under_boolR]) (by simp [wkU, St.lp, keepE, getK_cons, getK, D.under, pure_intR, under_intR, pure_boolR, under_boolR]) (by simp [wkE, St.lp, keepE, getK_cons, getK, pure_intR, under_intR, pure_boolR, under_boolR] <;> (try (intros; simp_all; done)) <;> (try (intros; omega)) <;> (try grind)))
    rintro ⟨⟨r, g, last⟩, hs⟩
    simp only at hs
    simp [St.lp, St.only, keepE, getK_cons, getK]
    rcases hs with ⟨hr1, ⟨t, L, ht, hSI⟩, hfin⟩ | ⟨rfl, rfl, hlr, hret0⟩
    · skip
      have htl : r * l.length ≤ 200 * l.length := Nat.mul_le_mul_right _ (by omega)
      have hrx := relax_ret i l g (-1) e4 e3 (stR_bd e4 e3 hSI (by omega))
      simp only [consU] at hrx
      have hle : (r : Int) ≤ (i : Int) := by omega
      obtain ⟨f, hf⟩ : ∃ f, i + 1 - r = f + 1 := ⟨i - r, by omega⟩
      rw [hf, loopR] at hfin
      obtain ⟨L', hSM⟩ := hSI.sweep e4
      have hlast : ¬ (sweepR l g).2 < 0 := fun hlast => by
        rw [if_pos (.inr hlast)] at hfin
        rw [hfin] at hlast
        simp only at hlast
        omega
      by_cases hf0 : f = 0
      · rw [if_pos (.inl hf0)] at hfin
        rw [hfin] at hrx hlast
        simp only at hrx hlast
        repeat' (first
    | (refine H_cons ?_; simp [hle, hlast])
    | (refine H_nil ?_; simp [hle, hlast])
    | (refine ⟨by omega, ?_⟩)
    | (refine V_sseq ?_; simp [hle, hlast])
    | (refine V_scond ?_; simp [hle, hlast])
    | (refine V_sregion ?_; simp [hle, hlast])
    | (refine V_skip ?_; simp only [RK_seq, RK_seq_ret, RK_seq_exit, RK_blk, RK_blk_ret, RK_blk_exit, RK_loop, RK_loop_ret, RK_loop_exit, RK_done])
    | (refine CallP.ret_ (hrx) (by rfl) (by first | assumption | simp) (by rfl) (by simp) ?_; rintro d o n' hn' ⟨rfl, rfl, rfl⟩; (try simp at hn'); (try simp [hle, hlast]))
    | fail)
        refine LoopW.next ⟨(r + 1, gF, ret), .inr ⟨by simp only; omega, rfl, rfl, by omega⟩⟩ (by simp; omega) ?_
        exact (Wk.cut rfl (by simp [hn, St.lp]) (by simp [wkO, St.lp, getK_cons, getK, Ob.under, D.under, under_rowsD, under_entD, pure_intR, under_intR, pure_boolR, under_boolR]) (by simp [wkU, St.lp, keepE, getK_cons, getK, D.under, pure_intR, under_intR, pure_boolR, under_boolR]) (by simp [wkE, St.lp, keepE, getK_cons, getK, pure_intR, under_intR, pure_boolR, under_boolR] <;> (try (intros; simp_all; done)) <;> (try (intros; omega)) <;> (try grind)))
      · rw [if_neg (by rintro (h | h); exact hf0 h; exact hlast h)] at hfin
        repeat' (first
    | (refine H_cons ?_; simp [hle, hlast])
    | (refine H_nil ?_; simp [hle, hlast])
    | (refine ⟨by omega, ?_⟩)
    | (refine V_sseq ?_; simp [hle, hlast])
    | (refine V_scond ?_; simp [hle, hlast])
    | (refine V_sregion ?_; simp [hle, hlast])
    | (refine V_skip ?_; simp only [RK_seq, RK_seq_ret, RK_seq_exit, RK_blk, RK_blk_ret, RK_blk_exit, RK_loop, RK_loop_ret, RK_loop_exit, RK_done])
    | (refine CallP.ret_ (hrx) (by rfl) (by first | assumption | simp) (by rfl) (by simp) ?_; rintro d o n' hn' ⟨rfl, rfl, rfl⟩; (try simp at hn'); (try simp [hle, hlast]))
    | fail)
        refine LoopW.next ⟨(r + 1, (sweepR l g).1, (sweepR l g).2), .inl ⟨by simp only; omega, ⟨_, L', by simp only; rw [Nat.succ_mul]; omega, hSM.fin⟩, by simp only; rw [show i + 1 - (r + 1) = f by omega]; exact hfin⟩⟩ (by simp; omega) ?_
        exact (Wk.cut rfl (by simp [hn, St.lp]) (by simp [wkO, St.lp, getK_cons, getK, Ob.under, D.under, under_rowsD, under_entD, pure_intR, under_intR, pure_boolR, under_boolR]) (by simp [wkU, St.lp, keepE, getK_cons, getK, D.under, pure_intR, under_intR, pure_boolR, under_boolR]) (by simp [wkE, St.lp, keepE, getK_cons, getK, pure_intR, under_intR, pure_boolR, under_boolR] <;> (try (intros; simp_all; done)) <;> (try (intros; omega)) <;> (try grind)))
    · have hgt : ¬ (i : Int) + 1 ≤ (i : Int) := by omega
      subst hlr
      subst hR
      repeat' (first
    | (refine H_cons ?_; simp [hgt])
    | (refine H_nil ?_; simp [hgt])
    | (refine V_sseq ?_; simp [hgt])
    | (refine V_scond ?_; simp [hgt])
    | (refine V_sblock ?_; simp [hgt])
    | (refine V_exit ?_; simp [RK_seq, RK_seq_ret, RK_seq_exit, RK_blk, RK_blk_ret, RK_blk_exit, RK_loop, RK_loop_ret, RK_loop_exit, RK_done])
    | fail)
      refine V_loopF (α := { j : Nat // j ≤ i }) [0, 1, 9] (fun j => [(11, .u (.int .i64 (it l g j.1 R))), (13, .u (.int .i64 j.1))]) (fun j => i - j.1) ⟨0, by omega⟩ ?_ ?_
      · exact (Wk.cut rfl (by simp [hn, St.lp]) (by simp [wkO, St.lp, getK_cons, getK, Ob.under, D.under, under_rowsD, under_entD, pure_intR, under_intR, pure_boolR, under_boolR, it]) (by simp [wkU, St.lp, keepE, getK_cons, getK, D.under, pure_intR, under_intR, pure_boolR, under_boolR, it]) (by simp [wkE, St.lp, keepE, getK_cons, getK, pure_intR, under_intR, pure_boolR, under_boolR, it] <;> (try (intros; simp_all; done)) <;> (try (intros; omega)) <;> (try grind)))
      rintro ⟨j, hj⟩
      simp [St.lp, St.only, keepE, getK_cons, getK]
      by_cases hji : j < i
      case pos =>
        have hxi : it l g j R < i := it_lt e4 j (by omega)
        obtain ⟨I, c, q1, q2, q3, q4⟩ := back_at (-1) e4 hinv hxi (al_at ha hji)
        have q5 := it_succ l g j R
        rw [← q5] at q3
        repeat' (first
    | (refine H_cons ?_; simp [hji, intR_len, intR_getE, lst_len, lst_getE, hxi, q1, q2, q3, q4])
    | (refine H_nil ?_; simp [hji, intR_len, intR_getE, lst_len, lst_getE, hxi, q1, q2, q3, q4])
    | (refine ⟨by omega, ?_⟩)
    | (refine V_sseq ?_; simp [hji, intR_len, intR_getE, lst_len, lst_getE, hxi, q1, q2, q3, q4])
    | (refine V_scond ?_; simp [hji, intR_len, intR_getE, lst_len, lst_getE, hxi, q1, q2, q3, q4])
    | (refine V_sregion ?_; simp [hji, intR_len, intR_getE, lst_len, lst_getE, hxi, q1, q2, q3, q4])
    | (refine V_skip ?_; simp only [RK_seq, RK_seq_ret, RK_seq_exit, RK_blk, RK_blk_ret, RK_blk_exit, RK_loop, RK_loop_ret, RK_loop_exit, RK_done])
    | fail)
        refine LoopW.next ⟨j + 1, by omega⟩ (by simp; omega) ?_
        exact (Wk.cut rfl (by simp [hn, St.lp]) (by simp [wkO, St.lp, getK_cons, getK, Ob.under, D.under, under_rowsD, under_entD, pure_intR, under_intR, pure_boolR, under_boolR]) (by simp [wkU, St.lp, keepE, getK_cons, getK, D.under, pure_intR, under_intR, pure_boolR, under_boolR]) (by simp [wkE, St.lp, keepE, getK_cons, getK, pure_intR, under_intR, pure_boolR, under_boolR] <;> (try (intros; simp_all; done)) <;> (try (intros; omega)) <;> (try grind)))
      obtain rfl : j = i := by omega
      rw [hu]
      repeat' (first
    | (refine H_cons ?_; simp [hji])
    | (refine H_nil ?_; simp [hji])
    | (refine V_sseq ?_; simp [hji])
    | (refine V_scond ?_; simp [hji])
    | (refine V_exit ?_; simp [RK_seq, RK_seq_ret, RK_seq_exit, RK_blk, RK_blk_ret, RK_blk_exit, RK_loop, RK_loop_ret, RK_loop_exit, RK_done])
    | fail)
      refine V_wk _ (Wk.own 14 3 1 (by decide) rfl) ?_
      simp [St.own]
      refine V_loopO (α := { q : Nat // q ≤ k }) [0, 9, 11] (fun q => [(14, .vec 3 q.1), (15, .u (.int .i64 (it l g q.1 u)))])
        (fun q => [(3, .vec 3 1 (intR (pl l (-1) g q.1 u))), (2, .vec 3 1 (intR (lst j (preI (-1) g))))]) 4 (fun q => k - q.1) ⟨0, by omega⟩ ?_ ?_
      · exact (Wk.cut rfl (by simp [hn, St.lp]) (by simp [wkO, St.lp, getK_cons, getK, Ob.under, D.under, under_rowsD, under_entD, pure_intR, under_intR, pure_boolR, under_boolR, it, pl, intR]) (by simp [wkU, St.lp, keepE, getK_cons, getK, D.under, pure_intR, under_intR, pure_boolR, under_boolR, it, pl, intR]) (by simp [wkE, St.lp, keepE, getK_cons, getK, pure_intR, under_intR, pure_boolR, under_boolR, it, pl, intR] <;> (try (intros; simp_all; done)) <;> (try (intros; omega)) <;> (try grind)))
      rintro ⟨q, hq⟩
      simp [St.lp, St.only, keepE, getK_cons, getK]
      by_cases hqk : q < k
      case pos =>
        have hxi : it l g q u < j := it_lt e4 q hum
        obtain ⟨I, c, q1, q2, q3, q4⟩ := back_at (-1) e4 hinv hxi (al_at hak hqk)
        have q5 := it_succ l g q u
        rw [← q5] at q3
        have q6 := pl_snoc l (-1) g q u
        rw [q1] at q6
        have q7 : intR (pl l (-1) g q u) ++ [[D.u (.int .i64 (I : Int))]] = intR (pl l (-1) g (q + 1) u) := by rw [q6]; simp [intR]
        have q8 : lenR 1 (intR (pl l (-1) g q u)) := by simp [intR]
        have q9 := pl_len l (-1) g q u
        by_cases hq0 : q = 0
        · subst hq0
          repeat' (first
    | (refine H_cons ?_; simp [intR_len, intR_getE, lst_len, lst_getE, hxi, q1, q2, q3, q4, q7, q8, q9])
    | (refine H_nil ?_; simp [intR_len, intR_getE, lst_len, lst_getE, hxi, q1, q2, q3, q4, q7, q8, q9])
    | (refine V_sseq ?_; simp [intR_len, intR_getE, lst_len, lst_getE, hxi, q1, q2, q3, q4, q7, q8, q9])
    | (refine V_scond ?_; simp [intR_len, intR_getE, lst_len, lst_getE, hxi, q1, q2, q3, q4, q7, q8, q9])
    | (refine V_sblock ?_; simp [intR_len, intR_getE, lst_len, lst_getE, hxi, q1, q2, q3, q4, q7, q8, q9])
    | (refine V_sregion ?_; simp [intR_len, intR_getE, lst_len, lst_getE, hxi, q1, q2, q3, q4, q7, q8, q9])
    | (refine V_skip ?_; simp only [RK_seq, RK_seq_ret, RK_seq_exit, RK_blk, RK_blk_ret, RK_blk_exit, RK_loop, RK_loop_ret, RK_loop_exit, RK_done])
    | fail)
          refine LoopW.next ⟨0 + 1, by omega⟩ (by simp; omega) ?_
          exact (Wk.ren1 (3) (5) rfl (by simp [hn]) (by simp [hn]) (by simp [pure_intR, under_intR]) (by simp [wkER, rho1, St.lp, keepE, getK_cons, getK, getK_del, getK_setOb, D.under, D.le, D.ren, pure_intR, under_intR] <;> (try (intros; simp_all; done)) <;> (try omega)) (by simp [wkR, wkR_tail1, endsIn_here, endsIn_cons, del_cons, del_fam, rho1, St.lp, getK_cons, getK, getK_del, getK_setOb, obR, leU, pureRow, pureRows, Ob.under, D.under, D.le, D.ren, pure_intR, under_intR] <;> (try (intros; simp_all; done)) <;> (try omega)))
        · have hne := hkmin q (by omega) hqk
          have hne2 : ¬ ((it l g q u : Nat) : Int) = (u : Int) := fun e => hne (by omega)
          repeat' (first
    | (refine H_cons ?_; simp [hq0, hne, hne2, intR_len, intR_getE, lst_len, lst_getE, hxi, q1, q2, q3, q4, q7, q8, q9])
    | (refine H_nil ?_; simp [hq0, hne, hne2, intR_len, intR_getE, lst_len, lst_getE, hxi, q1, q2, q3, q4, q7, q8, q9])
    | (refine ⟨by omega, ?_⟩)
    | (refine V_sseq ?_; simp [hq0, hne, hne2, intR_len, intR_getE, lst_len, lst_getE, hxi, q1, q2, q3, q4, q7, q8, q9])
    | (refine V_scond ?_; simp [hq0, hne, hne2, intR_len, intR_getE, lst_len, lst_getE, hxi, q1, q2, q3, q4, q7, q8, q9])
    | (refine V_sblock ?_; simp [hq0, hne, hne2, intR_len, intR_getE, lst_len, lst_getE, hxi, q1, q2, q3, q4, q7, q8, q9])
    | (refine V_sregion ?_; simp [hq0, hne, hne2, intR_len, intR_getE, lst_len, lst_getE, hxi, q1, q2, q3, q4, q7, q8, q9])
    | (refine V_skip ?_; simp only [RK_seq, RK_seq_ret, RK_seq_exit, RK_blk, RK_blk_ret, RK_blk_exit, RK_loop, RK_loop_ret, RK_loop_exit, RK_done])
    | fail)
          refine LoopW.next ⟨q + 1, by omega⟩ (by simp; omega) ?_
          exact (Wk.ren1 (3) (5) rfl (by simp [hn]) (by simp [hn]) (by simp [pure_intR, under_intR]) (by simp [wkER, rho1, St.lp, keepE, getK_cons, getK, getK_del, getK_setOb, D.under, D.le, D.ren, pure_intR, under_intR] <;> (try (intros; simp_all; done)) <;> (try omega)) (by simp [wkR, wkR_tail1, endsIn_here, endsIn_cons, del_cons, del_fam, rho1, St.lp, getK_cons, getK, getK_del, getK_setOb, obR, leU, pureRow, pureRows, Ob.under, D.under, D.le, D.ren, pure_intR, under_intR] <;> (try (intros; simp_all; done)) <;> (try omega)))
      obtain rfl : q = k := by omega
      rw [hke]
      have hk1 : ¬ q = 0 := by omega
      have q9 := pl_len l (-1) g q u
      refine V_wk _ (Wk.frz 3 [] (us := (pl l (-1) g q u).map fun z => [U.int .i64 z]) rfl (intR_all _)) ?_
      simp [St.frz, St.frzS, frzS, fv, fzVec, frzObS, del]
      repeat' (first
    | (refine H_cons ?_; simp [hk1, q9])
    | (refine H_nil ?_; simp [hk1, q9])
    | (refine ⟨by omega, ?_⟩)
    | (refine V_sseq ?_; simp [hk1, q9])
    | (refine V_scond ?_; simp [hk1, q9])
    | (refine V_sblock ?_; simp [hk1, q9])
    | (refine V_exit ?_; simp [RK_seq, RK_seq_ret, RK_seq_exit, RK_blk, RK_blk_ret, RK_blk_exit, RK_loop, RK_loop_ret, RK_loop_exit, RK_done])
    | fail)
      refine V_wk _ (Wk.own 16 3 1 (by decide) rfl) ?_
      simp [St.own]
      have hrl : (pl l (-1) g q u).reverse.length = q := by simp [q9]
      refine V_loopO (α := { w : Nat // w ≤ q }) [14] (fun w => [(16, .vec 4 w.1), (17, .u (.int .i64 ((q : Int) - 1 - w.1)))])
        (fun w => [(4, .vec 3 1 (intR ((pl l (-1) g q u).reverse.take w.1)))]) 5 (fun w => q - w.1) ⟨0, by omega⟩ ?_ ?_
      · exact (Wk.cut rfl (by simp [hn, St.lp]) (by simp [wkO, St.lp, getK_cons, getK, Ob.under, D.under, under_rowsD, under_entD, pure_intR, under_intR, intR]) (by simp [wkU, St.lp, keepE, getK_cons, getK, D.under, pure_intR, under_intR, intR]) (by simp [wkE, St.lp, keepE, getK_cons, getK, pure_intR, under_intR, intR] <;> (try (intros; simp_all; done)) <;> (try (intros; omega)) <;> (try grind)))
      rintro ⟨w, hw⟩
      simp [St.lp, St.only, keepE, getK_cons, getK]
      have hidx : w < q → (q : Int) - 1 - w = ((q - 1 - w : Nat) : Int) := fun h => by omega
      by_cases hwq : w < q
      · obtain ⟨x, hx⟩ : ∃ x, (pl l (-1) g q u).reverse[w]? = some x := ⟨_, List.getElem?_eq_getElem (by omega)⟩
        have hx2 : (pl l (-1) g q u)[q - 1 - w]? = some x := by rw [List.getElem?_reverse (by omega), q9] at hx; exact hx
        have q7 : intR ((pl l (-1) g q u).reverse.take w) ++ [[D.u (.int .i64 x)]] = intR ((pl l (-1) g q u).reverse.take (w + 1)) := by rw [take_snoc hx]; simp [intR]
        have q8 := intR_lenR ((pl l (-1) g q u).reverse.take w)
        have hmw : min w q = w := by omega
        rw [hidx hwq]
        repeat' (first
    | (refine H_cons ?_; simp [hx2, intR_len, List.length_take, hrl, hmw, q7, q8])
    | (refine H_nil ?_; simp [hx2, intR_len, List.length_take, hrl, hmw, q7, q8])
    | (refine ⟨by omega, ?_⟩)
    | (refine V_sseq ?_; simp [hx2, intR_len, List.length_take, hrl, hmw, q7, q8])
    | (refine V_scond ?_; simp [hx2, intR_len, List.length_take, hrl, hmw, q7, q8])
    | (refine V_sregion ?_; simp [hx2, intR_len, List.length_take, hrl, hmw, q7, q8])
    | (refine V_skip ?_; simp only [RK_seq, RK_seq_ret, RK_seq_exit, RK_blk, RK_blk_ret, RK_blk_exit, RK_loop, RK_loop_ret, RK_loop_exit, RK_done])
    | fail)
        refine LoopW.next ⟨w + 1, by omega⟩ (by simp; omega) ?_
        exact (Wk.ren1 (4) (6) rfl (by simp [hn]) (by simp [hn]) (by simp [pure_intR, under_intR]) (by simp [wkER, rho1, St.lp, keepE, getK_cons, getK, getK_del, getK_setOb, D.under, D.le, D.ren, pure_intR, under_intR] <;> (try (intros; simp_all; done)) <;> (try omega)) (by simp [wkR, wkR_tail1, endsIn_here, endsIn_cons, del_cons, del_fam, rho1, St.lp, getK_cons, getK, getK_del, getK_setOb, obR, leU, pureRow, pureRows, Ob.under, D.under, D.le, D.ren, pure_intR, under_intR] <;> (try (intros; simp_all; done)) <;> (try omega)))
      · obtain rfl : w = q := by omega
        rw [List.take_of_length_le (by omega)]
        repeat' (first
    | (refine H_cons ?_; simp)
    | (refine H_nil ?_; simp)
    | (refine ⟨by omega, ?_⟩)
    | (refine V_sseq ?_; simp)
    | (refine V_scond ?_; simp)
    | (refine V_ret ?_; simp only [RK_seq, RK_seq_ret, RK_seq_exit, RK_blk, RK_blk_ret, RK_blk_exit, RK_loop, RK_loop_ret, RK_loop_exit, RK_done])
    | (refine V_exit ?_; simp [RK_seq, RK_seq_ret, RK_seq_exit, RK_blk, RK_blk_ret, RK_blk_exit, RK_loop, RK_loop_ret, RK_loop_exit, RK_done])
    | (intro hc <;> (try (exfalso; omega)))
    | fail)
        refine EndW.wk _ (Wk.frz 4 [] (us := (pl l (-1) g w u).reverse.map fun z => [U.int .i64 z]) rfl (intR_all _)) ?_
        simp [St.frz, St.frzS, frzS, fv, fzVec, frzObS, del, q9]
        refine EndW.norm (EndW.here ?_)
        (refine EndOK.val (.inr rfl) ?_; simp [resD, oneOrTup, pureD, Try.results10, frz_obs, frz_env, norm_obs, norm_env, frz, frzOb, frzS, fv, fzVec, fzMap, fzBox, frzObS, frz_entD, frz_rowsD, normD, normU, norm1, normOb, q9])
end Go.Proofs.Ytdkadmchdocjbaa
