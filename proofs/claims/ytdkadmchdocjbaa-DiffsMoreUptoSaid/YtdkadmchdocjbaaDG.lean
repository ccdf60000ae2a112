/- Layer 13: more constraints, another order: the law walked (the examples are given). -/
import Derived.Test.YtdkadmchdocjbaaDF
set_option linter.all false
set_option maxRecDepth 100000
set_option maxHeartbeats 8000000
set_option linter.all false
namespace Go.Proofs.Ytdkadmchdocjbaa
open Go Go.VL
attribute [local simp] hcons hstep evPure opd uOf putOK St.put St.at getK binD binI binS binB nilD aggD eqUs cmpK lookD lookR rangeD Go.VL.nextD entryD keyD valU keyU lookK mkV entD_nil lookK_entD updK_entD1 updK_entD2 updK_entD3 allUE allUE_entD makeMapD mapUpdD mapEff updK valM Key.kk shiftI arith unD convD pickD loadD cellsAt fieldAddrD fieldD indexAddrD indexD sliceD cutD lenD minmaxD nilCheckD buildD fillD cellsD isOne ones setAll mkAgg allU allocD boxD storeD St.add buildSliceD appendD rowsOf makeD setOb getK_setOb getK_del getK_cons stripL strip guardTmp entry chunks zcells valD argsV argsW argW argU1 argU0 argsU0 argsU1 calleeOf scalarD scalarU delAll effD St.effS RK_seq RK_seq_ret RK_seq_exit RK_blk RK_blk_ret RK_blk_exit RK_loop RK_loop_ret RK_loop_exit RK_done vs_seq vs_block vs_skip vs_label vs_exit vs_ret vs_cond vs_region vs_loop vs_draw vs_range vs_scope applyW mkD rdIds lentIds callOf calleeOf freeOp D.ids Op.operands Call.operands isEffOp makeIfD typeAssertD conc concs conc1 uOfV panicD IntKind.bits allU2 allU2_append List.take_of_length_le List.range_succ
attribute [local irreducible] V G H HD HD2 RunK Eff CallP CallV EndOK Fun Ret FinOK LoopI LoopW EndW
set_option maxHeartbeats 16000000 in
theorem mores_fun (h0 : Fun Try.prog 7 [] (· = .u (.bool true))) (l more : List Con) (n b : Int) (hl : l.length ≤ 1048576) (hm : more.length ≤ 1048576) : Fun Try.prog 6 [.u (consU l), .u (consU more), .u (.int .i64 n), .u (.int .i64 b)] (· = .u (.bool true)) := by
  by_cases hcc : (l.length ≤ 50 ∧ more.length ≤ 5 ∧ n ≤ 40 ∧ 0 ≤ b ∧ b ≤ l.length) ∧ rightL (l ++ more) n = true
  case neg => exact mores_neg h0 l more n b hl hm hcc
  have h1 := few_fun l 50
  have h2 := few_fun more 5
  have h3 := right_fun (l ++ more) n
  obtain ⟨⟨c1, c2, d1, d2, d3⟩, hr2⟩ := hcc
  have c1' : (l.length : Int) ≤ 50 := by omega
  have c2' : (more.length : Int) ≤ 5 := by omega
  simp only [c1', decide_true] at h1
  simp only [c2', decide_true] at h2
  rw [hr2] at h3
  have hr : rightL l n = true := right_sub hr2 (fun c h => List.mem_append.2 (.inl h)) (by omega)
  obtain ⟨B, rfl⟩ := Int.eq_ofNat_of_zero_le d2
  have hBl : B ≤ l.length := by omega
  have hz0 : l.length - B + (min B l.length + l.length) = l.length + l.length := by omega
  have hz1 : l.length - B + (B + l.length) = l.length + l.length := by omega
  have htm := turned_mem l B
  have htl := turned_len l B
  have hr3 : rightL (turned l B) n = true := right_sub hr (fun c h => (htm c).2 h) (by omega)
  obtain ⟨e1, e2, e3, e4⟩ := rightL_out hr
  generalize hN : n.toNat = m at e1 e2 e4
  subst e1
  have hm40 : m ≤ 40 := by omega
  obtain ⟨V1, C1, E1, s4, h4⟩ := solve_ex l m (hK_more (by omega) (by omega))
  obtain ⟨V2, C2, E2, s5, h5⟩ := solve_ex (l ++ more) m (hK_more (by omega) (by simp; omega))
  obtain ⟨V3, C3, E3, s6, h6⟩ := solve_ex (turned l B) m (hK_more (by omega) (by omega))
  obtain ⟨rfl, rfl⟩ := s4.one s6 htm (by rw [hr, hr3])
  have h7 := rsame_fun V1 V1 (by have := s4.len; omega)
  simp only [decide_true] at h7
  rcases s4 with ⟨hx, _⟩ | ⟨_, ⟨f, hg, hbd, rfl, rfl, rfl⟩ | ⟨hun, rfl, rfl, hcy⟩⟩
  · rw [hr] at hx; cases hx
  case inr.inr =>
    obtain ⟨rfl, rfl⟩ : V2 = [] ∧ E2 = 23 := by
      rcases s5 with ⟨hx, _⟩ | ⟨_, ⟨f, hg, hbd, rfl, rfl, rfl⟩ | ⟨hun, rfl, rfl, hcy⟩⟩
      · rw [hr2] at hx; cases hx
      · exact absurd (fun c h => hg.sol c (List.mem_append.2 (.inl h))) (hun f)
      · exact ⟨rfl, rfl⟩
    clear hcy s6
    simp only [consU, ints, turned, List.map_append, List.map_drop, List.map_take] at h1 h2 h3 h4 h5 h6 h7 ⊢
    (refine Fun.of_body Try.func6 rfl (by simp) fun Γ hn => ?_); simp only [entry, List.zipIdx_cons, List.zipIdx_nil, List.map_cons, List.map_nil, Nat.zero_add, Try.ntmps6]
    repeat' (first
    | (refine H_cons ?_; simp [d1, hBl, hz0, hz1])
    | (refine HD2_val rfl ?_; simp [d1, hBl, hz0, hz1])
    | (refine HD2_chg rfl ?_; simp [d1, hBl, hz0, hz1])
    | (refine H_nil ?_; simp [d1, hBl, hz0, hz1])
    | (refine ⟨by omega, ?_⟩)
    | (refine V_sseq ?_; simp [d1, hBl, hz0, hz1])
    | (refine V_scond ?_; simp [d1, hBl, hz0, hz1])
    | (refine HD2_nil (hC _ (by kernel_rfl)) (hk _ ?_); clear hC hk C k; simp only [RK_seq, RK_seq_ret, RK_seq_exit, RK_blk, RK_blk_ret, RK_blk_exit, RK_loop, RK_loop_ret, RK_loop_exit, RK_done])
    | (refine V_drawE rfl (by kernel_rfl) (by kernel_rfl) (by simp [hn]) fun C k hC hk => ?_; simp [d1, hBl, hz0, hz1])
    | (refine V_ret ?_; simp only [RK_seq, RK_seq_ret, RK_seq_exit, RK_blk, RK_blk_ret, RK_blk_exit, RK_loop, RK_loop_ret, RK_loop_exit, RK_done])
    | (refine V_skip ?_; simp only [RK_seq, RK_seq_ret, RK_seq_exit, RK_blk, RK_blk_ret, RK_blk_exit, RK_loop, RK_loop_ret, RK_loop_exit, RK_done])
    | (refine ⟨?_, by omega⟩)
    | (refine CallP.fun_ (h0) (by first | rfl | fail) (by first | assumption | (simp; done) | fail) (by first | (simp [d1, hBl, hz0, hz1]; done) | (simp [d1, hBl, hz0, hz1]; rfl) | fail) (by first | (simp; done) | fail) (fun d hd => ?_); subst hd; (try simp [d1, hBl, hz0, hz1]))
    | (refine CallP.fun_ (h1) (by first | rfl | fail) (by first | assumption | (simp; done) | fail) (by first | (simp [d1, hBl, hz0, hz1]; done) | (simp [d1, hBl, hz0, hz1]; rfl) | fail) (by first | (simp; done) | fail) (fun d hd => ?_); subst hd; (try simp [d1, hBl, hz0, hz1]))
    | (refine CallP.fun_ (h2) (by first | rfl | fail) (by first | assumption | (simp; done) | fail) (by first | (simp [d1, hBl, hz0, hz1]; done) | (simp [d1, hBl, hz0, hz1]; rfl) | fail) (by first | (simp; done) | fail) (fun d hd => ?_); subst hd; (try simp [d1, hBl, hz0, hz1]))
    | (refine CallP.fun_ (h3) (by first | rfl | fail) (by first | assumption | (simp; done) | fail) (by first | (simp [d1, hBl, hz0, hz1]; done) | (simp [d1, hBl, hz0, hz1]; rfl) | fail) (by first | (simp; done) | fail) (fun d hd => ?_); subst hd; (try simp [d1, hBl, hz0, hz1]))
    | (refine CallP.fun_ (h4) (by first | rfl | fail) (by first | assumption | (simp; done) | fail) (by first | (simp [d1, hBl, hz0, hz1]; done) | (simp [d1, hBl, hz0, hz1]; rfl) | fail) (by first | (simp; done) | fail) (fun d hd => ?_); subst hd; (try simp [d1, hBl, hz0, hz1]))
    | (refine CallP.fun_ (h5) (by first | rfl | fail) (by first | assumption | (simp; done) | fail) (by first | (simp [d1, hBl, hz0, hz1]; done) | (simp [d1, hBl, hz0, hz1]; rfl) | fail) (by first | (simp; done) | fail) (fun d hd => ?_); subst hd; (try simp [d1, hBl, hz0, hz1]))
    | (refine CallP.fun_ (h6) (by first | rfl | fail) (by first | assumption | (simp; done) | fail) (by first | (simp [d1, hBl, hz0, hz1]; done) | (simp [d1, hBl, hz0, hz1]; rfl) | fail) (by first | (simp; done) | fail) (fun d hd => ?_); subst hd; (try simp [d1, hBl, hz0, hz1]))
    | (refine CallP.fun_ (h7) (by first | rfl | fail) (by first | assumption | (simp; done) | fail) (by first | (simp [d1, hBl, hz0, hz1]; done) | (simp [d1, hBl, hz0, hz1]; rfl) | fail) (by first | (simp; done) | fail) (fun d hd => ?_); subst hd; (try simp [d1, hBl, hz0, hz1]))
    | fail)
    (refine EndOK.val (.inr rfl) ?_; simp [resD, oneOrTup, pureD, Try.results6])
  simp only [Int.toNat_natCast] at hg hbd h4 h6 h7
  rcases s5 with ⟨hx, _⟩ | ⟨_, ⟨f2, hg2, hbd2, rfl, rfl, rfl⟩ | ⟨hun, rfl, rfl, hcy⟩⟩
  · rw [hr2] at hx; cases hx
  case inr.inr =>
    clear hcy s6 hbd
    simp only [consU, ints, turned, List.map_append, List.map_drop, List.map_take] at h1 h2 h3 h4 h5 h6 h7 ⊢
    (refine Fun.of_body Try.func6 rfl (by simp) fun Γ hn => ?_); simp only [entry, List.zipIdx_cons, List.zipIdx_nil, List.map_cons, List.map_nil, Nat.zero_add, Try.ntmps6]
    repeat' (first
    | (refine H_cons ?_; simp [d1, hBl, hz0, hz1])
    | (refine HD2_val rfl ?_; simp [d1, hBl, hz0, hz1])
    | (refine HD2_chg rfl ?_; simp [d1, hBl, hz0, hz1])
    | (refine H_nil ?_; simp [d1, hBl, hz0, hz1])
    | (refine ⟨by omega, ?_⟩)
    | (refine V_sseq ?_; simp [d1, hBl, hz0, hz1])
    | (refine V_scond ?_; simp [d1, hBl, hz0, hz1])
    | (refine HD2_nil (hC _ (by kernel_rfl)) (hk _ ?_); clear hC hk C k; simp only [RK_seq, RK_seq_ret, RK_seq_exit, RK_blk, RK_blk_ret, RK_blk_exit, RK_loop, RK_loop_ret, RK_loop_exit, RK_done])
    | (refine V_drawE rfl (by kernel_rfl) (by kernel_rfl) (by simp [hn]) fun C k hC hk => ?_; simp [d1, hBl, hz0, hz1])
    | (refine V_ret ?_; simp only [RK_seq, RK_seq_ret, RK_seq_exit, RK_blk, RK_blk_ret, RK_blk_exit, RK_loop, RK_loop_ret, RK_loop_exit, RK_done])
    | (refine V_skip ?_; simp only [RK_seq, RK_seq_ret, RK_seq_exit, RK_blk, RK_blk_ret, RK_blk_exit, RK_loop, RK_loop_ret, RK_loop_exit, RK_done])
    | (refine ⟨?_, by omega⟩)
    | (refine CallP.fun_ (h0) (by first | rfl | fail) (by first | assumption | (simp; done) | fail) (by first | (simp [d1, hBl, hz0, hz1]; done) | (simp [d1, hBl, hz0, hz1]; rfl) | fail) (by first | (simp; done) | fail) (fun d hd => ?_); subst hd; (try simp [d1, hBl, hz0, hz1]))
    | (refine CallP.fun_ (h1) (by first | rfl | fail) (by first | assumption | (simp; done) | fail) (by first | (simp [d1, hBl, hz0, hz1]; done) | (simp [d1, hBl, hz0, hz1]; rfl) | fail) (by first | (simp; done) | fail) (fun d hd => ?_); subst hd; (try simp [d1, hBl, hz0, hz1]))
    | (refine CallP.fun_ (h2) (by first | rfl | fail) (by first | assumption | (simp; done) | fail) (by first | (simp [d1, hBl, hz0, hz1]; done) | (simp [d1, hBl, hz0, hz1]; rfl) | fail) (by first | (simp; done) | fail) (fun d hd => ?_); subst hd; (try simp [d1, hBl, hz0, hz1]))
    | (refine CallP.fun_ (h3) (by first | rfl | fail) (by first | assumption | (simp; done) | fail) (by first | (simp [d1, hBl, hz0, hz1]; done) | (simp [d1, hBl, hz0, hz1]; rfl) | fail) (by first | (simp; done) | fail) (fun d hd => ?_); subst hd; (try simp [d1, hBl, hz0, hz1]))
    | (refine CallP.fun_ (h4) (by first | rfl | fail) (by first | assumption | (simp; done) | fail) (by first | (simp [d1, hBl, hz0, hz1]; done) | (simp [d1, hBl, hz0, hz1]; rfl) | fail) (by first | (simp; done) | fail) (fun d hd => ?_); subst hd; (try simp [d1, hBl, hz0, hz1]))
    | (refine CallP.fun_ (h5) (by first | rfl | fail) (by first | assumption | (simp; done) | fail) (by first | (simp [d1, hBl, hz0, hz1]; done) | (simp [d1, hBl, hz0, hz1]; rfl) | fail) (by first | (simp; done) | fail) (fun d hd => ?_); subst hd; (try simp [d1, hBl, hz0, hz1]))
    | (refine CallP.fun_ (h6) (by first | rfl | fail) (by first | assumption | (simp; done) | fail) (by first | (simp [d1, hBl, hz0, hz1]; done) | (simp [d1, hBl, hz0, hz1]; rfl) | fail) (by first | (simp; done) | fail) (fun d hd => ?_); subst hd; (try simp [d1, hBl, hz0, hz1]))
    | (refine CallP.fun_ (h7) (by first | rfl | fail) (by first | assumption | (simp; done) | fail) (by first | (simp [d1, hBl, hz0, hz1]; done) | (simp [d1, hBl, hz0, hz1]; rfl) | fail) (by first | (simp; done) | fail) (fun d hd => ?_); subst hd; (try simp [d1, hBl, hz0, hz1]))
    | fail)
    (refine EndOK.val (.inr rfl) ?_; simp [resD, oneOrTup, pureD, Try.results6])
  simp only [Int.toNat_natCast] at hg2 hbd2 h5
  have hle : ∀ i, i < m → f2 i ≤ f i := fun i hi => hg.most f2 (fun c h => hg2.sol c (List.mem_append.2 (.inl h))) hg2.neg i hi
  clear s6 hbd hbd2
  simp only [consU, ints, turned, List.map_append, List.map_drop, List.map_take] at h1 h2 h3 h4 h5 h6 h7 ⊢
  (refine Fun.of_body Try.func6 rfl (by simp) fun Γ hn => ?_); simp only [entry, List.zipIdx_cons, List.zipIdx_nil, List.map_cons, List.map_nil, Nat.zero_add, Try.ntmps6]
  repeat' (first
    | (refine H_cons ?_; simp [d1, hBl, hz0, hz1, lst_len])
    | (refine HD2_val rfl ?_; simp [d1, hBl, hz0, hz1, lst_len])
    | (refine HD2_chg rfl ?_; simp [d1, hBl, hz0, hz1, lst_len])
    | (refine H_nil ?_; simp [d1, hBl, hz0, hz1, lst_len])
    | (refine ⟨by omega, ?_⟩)
    | (refine V_sseq ?_; simp [d1, hBl, hz0, hz1, lst_len])
    | (refine V_scond ?_; simp [d1, hBl, hz0, hz1, lst_len])
    | (refine HD2_nil (hC _ (by kernel_rfl)) (hk _ ?_); clear hC hk C k; simp only [RK_seq, RK_seq_ret, RK_seq_exit, RK_blk, RK_blk_ret, RK_blk_exit, RK_loop, RK_loop_ret, RK_loop_exit, RK_done])
    | (refine V_drawE rfl (by kernel_rfl) (by kernel_rfl) (by simp [hn]) fun C k hC hk => ?_; simp [d1, hBl, hz0, hz1, lst_len])
    | (refine V_sblock ?_; simp [d1, hBl, hz0, hz1, lst_len])
    | (refine V_skip ?_; simp only [RK_seq, RK_seq_ret, RK_seq_exit, RK_blk, RK_blk_ret, RK_blk_exit, RK_loop, RK_loop_ret, RK_loop_exit, RK_done])
    | (refine ⟨?_, by omega⟩)
    | (refine CallP.fun_ (h0) (by first | rfl | fail) (by first | assumption | (simp; done) | fail) (by first | (simp [d1, hBl, hz0, hz1, lst_len]; done) | (simp [d1, hBl, hz0, hz1, lst_len]; rfl) | fail) (by first | (simp; done) | fail) (fun d hd => ?_); subst hd; (try simp [d1, hBl, hz0, hz1, lst_len]))
    | (refine CallP.fun_ (h1) (by first | rfl | fail) (by first | assumption | (simp; done) | fail) (by first | (simp [d1, hBl, hz0, hz1, lst_len]; done) | (simp [d1, hBl, hz0, hz1, lst_len]; rfl) | fail) (by first | (simp; done) | fail) (fun d hd => ?_); subst hd; (try simp [d1, hBl, hz0, hz1, lst_len]))
    | (refine CallP.fun_ (h2) (by first | rfl | fail) (by first | assumption | (simp; done) | fail) (by first | (simp [d1, hBl, hz0, hz1, lst_len]; done) | (simp [d1, hBl, hz0, hz1, lst_len]; rfl) | fail) (by first | (simp; done) | fail) (fun d hd => ?_); subst hd; (try simp [d1, hBl, hz0, hz1, lst_len]))
    | (refine CallP.fun_ (h3) (by first | rfl | fail) (by first | assumption | (simp; done) | fail) (by first | (simp [d1, hBl, hz0, hz1, lst_len]; done) | (simp [d1, hBl, hz0, hz1, lst_len]; rfl) | fail) (by first | (simp; done) | fail) (fun d hd => ?_); subst hd; (try simp [d1, hBl, hz0, hz1, lst_len]))
    | (refine CallP.fun_ (h4) (by first | rfl | fail) (by first | assumption | (simp; done) | fail) (by first | (simp [d1, hBl, hz0, hz1, lst_len]; done) | (simp [d1, hBl, hz0, hz1, lst_len]; rfl) | fail) (by first | (simp; done) | fail) (fun d hd => ?_); subst hd; (try simp [d1, hBl, hz0, hz1, lst_len]))
    | (refine CallP.fun_ (h5) (by first | rfl | fail) (by first | assumption | (simp; done) | fail) (by first | (simp [d1, hBl, hz0, hz1, lst_len]; done) | (simp [d1, hBl, hz0, hz1, lst_len]; rfl) | fail) (by first | (simp; done) | fail) (fun d hd => ?_); subst hd; (try simp [d1, hBl, hz0, hz1, lst_len]))
    | (refine CallP.fun_ (h6) (by first | rfl | fail) (by first | assumption | (simp; done) | fail) (by first | (simp [d1, hBl, hz0, hz1, lst_len]; done) | (simp [d1, hBl, hz0, hz1, lst_len]; rfl) | fail) (by first | (simp; done) | fail) (fun d hd => ?_); subst hd; (try simp [d1, hBl, hz0, hz1, lst_len]))
    | (refine CallP.fun_ (h7) (by first | rfl | fail) (by first | assumption | (simp; done) | fail) (by first | (simp [d1, hBl, hz0, hz1, lst_len]; done) | (simp [d1, hBl, hz0, hz1, lst_len]; rfl) | fail) (by first | (simp; done) | fail) (fun d hd => ?_); subst hd; (try simp [d1, hBl, hz0, hz1, lst_len]))
    | fail)
  refine V_loopO (α := { j : Nat // j ≤ m }) [0, 2, 3, 9, 11, 14] (fun j => [(21, .u (.int .i64 j.1))]) (fun _ => []) 0 (fun j => m - j.1) ⟨0, by omega⟩ ?_ ?_
  · exact (Wk.cut rfl (by simp [hn, St.lp]) (by simp [wkO, St.lp, getK_cons, getK, Ob.under, D.under, under_rowsD, under_entD]) (by simp [wkU, St.lp, keepE, getK_cons, getK, D.under]) (by simp [wkE, St.lp, keepE, getK_cons, getK] <;> (try (intros; simp_all; done)) <;> (try (intros; omega)) <;> (try grind)))
  rintro ⟨j, hj⟩
  simp [St.lp, St.only, keepE, getK_cons, getK]
  by_cases hjm : j < m
  · have hgj := lst_get f hjm
    have hgj2 := lst_get f2 hjm
    have hlj := hle j hjm
    have hlj2 : ¬ f j < f2 j := by omega
    repeat' (first
    | (refine H_cons ?_; simp [hjm, lst_getE, hlj2, lst_len])
    | (refine HD_cons ?_; simp [hjm, lst_getE, hlj2, lst_len])
    | (refine H_nil ?_; simp [hjm, lst_getE, hlj2, lst_len])
    | (refine ⟨by omega, ?_⟩)
    | (refine V_sseq ?_; simp [hjm, lst_getE, hlj2, lst_len])
    | (refine V_scond ?_; simp [hjm, lst_getE, hlj2, lst_len])
    | (refine HD_nil ?_)
    | (refine hk _ ?_; clear hk k; simp only [RK_seq, RK_seq_ret, RK_seq_exit, RK_blk, RK_blk_ret, RK_blk_exit, RK_loop, RK_loop_ret, RK_loop_exit, RK_done])
    | (refine V_drawV rfl (by kernel_rfl) (by kernel_rfl) fun k hk => ?_; simp [hjm, lst_getE, hlj2, lst_len])
    | (refine V_sregion ?_; simp [hjm, lst_getE, hlj2, lst_len])
    | (refine V_skip ?_; simp only [RK_seq, RK_seq_ret, RK_seq_exit, RK_blk, RK_blk_ret, RK_blk_exit, RK_loop, RK_loop_ret, RK_loop_exit, RK_done])
    | fail)
    refine LoopW.next ⟨j + 1, by omega⟩ (by simp; omega) ?_
    exact (Wk.cut rfl (by simp [hn, St.lp]) (by simp [wkO, St.lp, getK_cons, getK, Ob.under, D.under, under_rowsD, under_entD]) (by simp [wkU, St.lp, keepE, getK_cons, getK, D.under]) (by simp [wkE, St.lp, keepE, getK_cons, getK] <;> (try (intros; simp_all; done)) <;> (try (intros; omega)) <;> (try grind)))
  obtain rfl : j = m := by omega
  by_cases hm0 : j = 0
  · subst hm0
    repeat' (first
    | (refine H_cons ?_; simp [lst_len])
    | (refine H_nil ?_; simp [lst_len])
    | (refine V_sseq ?_; simp [lst_len])
    | (refine V_scond ?_; simp [lst_len])
    | (refine V_ret ?_; simp only [RK_seq, RK_seq_ret, RK_seq_exit, RK_blk, RK_blk_ret, RK_blk_exit, RK_loop, RK_loop_ret, RK_loop_exit, RK_done])
    | (refine V_exit ?_; simp [RK_seq, RK_seq_ret, RK_seq_exit, RK_blk, RK_blk_ret, RK_blk_exit, RK_loop, RK_loop_ret, RK_loop_exit, RK_done])
    | fail)
    (refine EndOK.val (.inr rfl) ?_; simp [resD, oneOrTup, pureD, Try.results6])
  have hm1 : 0 < j := by omega
  have hm2 : ¬ (j : Int) = 0 := by omega
  obtain ⟨M, D, F, s8, h8⟩ := most_ex l j (B % j : Nat) (l.length % j : Nat) (hK_more (by omega) (by omega))
  have ht1 : Int.tmod (B : Int) (j : Int) = ((B % j : Nat) : Int) := by rw [Int.ofNat_tmod]
  have ht2 : Int.tmod (l.length : Int) (j : Int) = ((l.length % j : Nat) : Int) := by rw [Int.ofNat_tmod]
  have hx1 : B % j < j := Nat.mod_lt _ hm1
  have hx2 : l.length % j < j := Nat.mod_lt _ hm1
  generalize B % j = X at *
  generalize l.length % j = Y at *
  rcases s8 with ⟨hx, _⟩ | ⟨_, ⟨hun2, _⟩ | ⟨hyy, g, hi, hf, hbd, s8⟩⟩
  · exfalso
    simp [hr] at hx
    omega
  · exact absurd hg.sol (hun2 f)
  simp only [Int.toNat_natCast] at hi hf hbd s8
  rcases s8 with ⟨hkn, rfl, rfl, rfl⟩ | ⟨hkn, rfl, rfl, hDl, hS⟩
  · simp only [consU, ints] at h8
    repeat' (first
    | (refine H_cons ?_; simp [hjm, lst_len, hm1, hm2, ht1, ht2])
    | (refine H_nil ?_; simp [hjm, lst_len, hm1, hm2, ht1, ht2])
    | (refine ⟨by omega, ?_⟩)
    | (refine V_sseq ?_; simp [hjm, lst_len, hm1, hm2, ht1, ht2])
    | (refine V_scond ?_; simp [hjm, lst_len, hm1, hm2, ht1, ht2])
    | (refine V_ret ?_; simp only [RK_seq, RK_seq_ret, RK_seq_exit, RK_blk, RK_blk_ret, RK_blk_exit, RK_loop, RK_loop_ret, RK_loop_exit, RK_done])
    | (refine V_skip ?_; simp only [RK_seq, RK_seq_ret, RK_seq_exit, RK_blk, RK_blk_ret, RK_blk_exit, RK_loop, RK_loop_ret, RK_loop_exit, RK_done])
    | (refine V_exit ?_; simp [RK_seq, RK_seq_ret, RK_seq_exit, RK_blk, RK_blk_ret, RK_blk_exit, RK_loop, RK_loop_ret, RK_loop_exit, RK_done])
    | (intro hc <;> (try (exfalso; omega)))
    | (refine CallP.fun_ (h8) (by first | rfl | fail) (by first | assumption | (simp; done) | fail) (by first | (simp [hjm, lst_len, hm1, hm2, ht1, ht2]; done) | (simp [hjm, lst_len, hm1, hm2, ht1, ht2]; rfl) | fail) (by first | (simp; done) | fail) (fun d hd => ?_); subst hd; (try simp [hjm, lst_len, hm1, hm2, ht1, ht2]))
    | fail)
    (refine EndOK.val (.inr rfl) ?_; simp [resD, oneOrTup, pureD, Try.results6])
  have hdl := fun y (hy : Sol l y) => diff_le hi hy hkn
  have hb60 := bnd_le hm40 (show l.length ≤ 66 by omega)
  have hbg := hbd X
  generalize hG : g.val X = G at *
  by_cases hrg : -1099511627776 ≤ G ∧ G ≤ 1099511627776
  · obtain ⟨g1, g2⟩ := hrg
    have hr9 := right_snoc' (c := ⟨X, Y, G⟩) e2 (by omega) e4 (by simp only [maxN]; omega)
    obtain ⟨V9, C9, E9, s9, h9⟩ := solve_ex (l ++ [⟨X, Y, G⟩]) j (hK_more (by omega) (by simp; omega))
    obtain ⟨rfl, rfl⟩ : V9 = lst j f ∧ E9 = 0 := by
      have hiff : ∀ y, Sol l y ↔ Sol (l ++ [⟨X, Y, G⟩]) y := fun y => by
        rw [Sol.snoc]
        refine ⟨fun h => ⟨h, ?_⟩, fun h => h.1⟩
        have := hdl y h
        simp only [Con.a, Con.b, Int.toNat_natCast]
        omega
      rcases s9 with ⟨hx, _⟩ | ⟨_, ⟨f9, hg9, _, rfl, _, rfl⟩ | ⟨hun9, _⟩⟩
      · rw [hr9] at hx; cases hx
      · simp only [Int.toNat_natCast] at hg9 ⊢
        exact ⟨(hg.eqv hg9 hiff).symm, trivial⟩
      · exact absurd ((hiff f).1 hg.sol) (hun9 f)
    simp only [consU, ints, List.map_append, List.map_cons, List.map_nil] at h8 h9
    have g3 : ¬ G < -1099511627776 := by omega
    have g4 : ¬ 1099511627776 < G := by omega
    repeat' (first
    | (refine H_cons ?_; simp [hjm, lst_len, hm1, hm2, ht1, ht2, g1, g2, g3, g4])
    | (refine H_nil ?_; simp [hjm, lst_len, hm1, hm2, ht1, ht2, g1, g2, g3, g4])
    | (refine ⟨by omega, ?_⟩)
    | (refine V_sseq ?_; simp [hjm, lst_len, hm1, hm2, ht1, ht2, g1, g2, g3, g4])
    | (refine V_scond ?_; simp [hjm, lst_len, hm1, hm2, ht1, ht2, g1, g2, g3, g4])
    | (refine V_ret ?_; simp only [RK_seq, RK_seq_ret, RK_seq_exit, RK_blk, RK_blk_ret, RK_blk_exit, RK_loop, RK_loop_ret, RK_loop_exit, RK_done])
    | (refine V_skip ?_; simp only [RK_seq, RK_seq_ret, RK_seq_exit, RK_blk, RK_blk_ret, RK_blk_exit, RK_loop, RK_loop_ret, RK_loop_exit, RK_done])
    | (refine V_exit ?_; simp [RK_seq, RK_seq_ret, RK_seq_exit, RK_blk, RK_blk_ret, RK_blk_exit, RK_loop, RK_loop_ret, RK_loop_exit, RK_done])
    | (intro hc <;> (try (exfalso; omega)))
    | (refine CallP.fun_ (h7) (by first | rfl | fail) (by first | assumption | (simp; done) | fail) (by first | (simp [hjm, lst_len, hm1, hm2, ht1, ht2, g1, g2, g3, g4]; done) | (simp [hjm, lst_len, hm1, hm2, ht1, ht2, g1, g2, g3, g4]; rfl) | fail) (by first | (simp; done) | fail) (fun d hd => ?_); subst hd; (try simp [hjm, lst_len, hm1, hm2, ht1, ht2, g1, g2, g3, g4]))
    | (refine CallP.fun_ (h8) (by first | rfl | fail) (by first | assumption | (simp; done) | fail) (by first | (simp [hjm, lst_len, hm1, hm2, ht1, ht2, g1, g2, g3, g4]; done) | (simp [hjm, lst_len, hm1, hm2, ht1, ht2, g1, g2, g3, g4]; rfl) | fail) (by first | (simp; done) | fail) (fun d hd => ?_); subst hd; (try simp [hjm, lst_len, hm1, hm2, ht1, ht2, g1, g2, g3, g4]))
    | (refine CallP.fun_ (h9) (by first | rfl | fail) (by first | assumption | (simp; done) | fail) (by first | (simp [hjm, lst_len, hm1, hm2, ht1, ht2, g1, g2, g3, g4]; done) | (simp [hjm, lst_len, hm1, hm2, ht1, ht2, g1, g2, g3, g4]; rfl) | fail) (by first | (simp; done) | fail) (fun d hd => ?_); subst hd; (try simp [hjm, lst_len, hm1, hm2, ht1, ht2, g1, g2, g3, g4]))
    | fail)
    (refine EndOK.val (.inr rfl) ?_; simp [resD, oneOrTup, pureD, Try.results6])
  · simp only [consU, ints] at h8
    repeat' (first
    | (refine H_cons ?_; simp [hjm, lst_len, hm1, hm2, ht1, ht2])
    | (refine H_nil ?_; simp [hjm, lst_len, hm1, hm2, ht1, ht2])
    | (refine ⟨by omega, ?_⟩)
    | (refine V_sseq ?_; simp [hjm, lst_len, hm1, hm2, ht1, ht2])
    | (refine V_scond ?_; simp [hjm, lst_len, hm1, hm2, ht1, ht2])
    | (refine V_ret ?_; simp only [RK_seq, RK_seq_ret, RK_seq_exit, RK_blk, RK_blk_ret, RK_blk_exit, RK_loop, RK_loop_ret, RK_loop_exit, RK_done])
    | (refine V_skip ?_; simp only [RK_seq, RK_seq_ret, RK_seq_exit, RK_blk, RK_blk_ret, RK_blk_exit, RK_loop, RK_loop_ret, RK_loop_exit, RK_done])
    | (refine V_exit ?_; simp [RK_seq, RK_seq_ret, RK_seq_exit, RK_blk, RK_blk_ret, RK_blk_exit, RK_loop, RK_loop_ret, RK_loop_exit, RK_done])
    | (refine ⟨?_, by omega⟩)
    | (refine ⟨fun hc => ?_, fun hc => ?_⟩ <;> (try (exfalso; omega)))
    | (intro hc <;> (try (exfalso; omega)))
    | (refine CallP.fun_ (h8) (by first | rfl | fail) (by first | assumption | (simp; done) | fail) (by first | (simp [hjm, lst_len, hm1, hm2, ht1, ht2]; done) | (simp [hjm, lst_len, hm1, hm2, ht1, ht2]; rfl) | fail) (by first | (simp; done) | fail) (fun d hd => ?_); subst hd; (try simp [hjm, lst_len, hm1, hm2, ht1, ht2]))
    | fail)
    all_goals first
      | ((refine EndOK.val (.inr rfl) ?_; simp [resD, oneOrTup, pureD, Try.results6]); done)
      | (exfalso; omega)
end Go.Proofs.Ytdkadmchdocjbaa
