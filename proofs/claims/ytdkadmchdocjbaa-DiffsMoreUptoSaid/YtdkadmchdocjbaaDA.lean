/- Layer 13: Solve and Most whose results are told as objects of the call's own: the walks. -/
import Derived.Test.YtdkadmchdocjbaaDt
import Derived.Test.YtdkadmchdocjbaaVLD
set_option linter.all false
set_option maxRecDepth 100000
set_option maxHeartbeats 8000000
set_option linter.all false
namespace Go.Proofs.Ytdkadmchdocjbaa
open Go Go.VL
attribute [local simp] HS hcons hstep evPure opd uOf putOK St.put St.at getK binD binI binS binB nilD aggD eqUs cmpK lookD lookR rangeD Go.VL.nextD entryD keyD valU keyU lookK mkV entD_nil lookK_entD updK_entD1 updK_entD2 updK_entD3 allUE allUE_entD makeMapD mapUpdD mapEff updK valM Key.kk shiftI arith unD convD pickD loadD cellsAt fieldAddrD fieldD indexAddrD indexD sliceD cutD lenD minmaxD nilCheckD buildD fillD cellsD isOne ones setAll mkAgg allU allocD boxD storeD St.add buildSliceD appendD rowsOf makeD setOb getK_setOb getK_del getK_cons stripL strip guardTmp entry chunks zcells valD argsV argsW argW argU1 argU0 argsU0 argsU1 calleeOf scalarD scalarU delAll effD St.effS RK_seq RK_seq_ret RK_seq_exit RK_blk RK_blk_ret RK_blk_exit RK_loop RK_loop_ret RK_loop_exit RK_done vs_seq vs_block vs_skip vs_label vs_exit vs_ret vs_cond vs_region vs_loop vs_draw vs_range vs_scope applyW mkD rdIds lentIds callOf calleeOf freeOp D.ids Op.operands Call.operands isEffOp makeIfD typeAssertD conc concs conc1 uOfV panicD IntKind.bits allU2 allU2_append List.take_of_length_le List.range_succ
attribute [local irreducible] V G H HD HD2 HD4 HD4h RetX RunK Eff CallP CallV EndOK Fun Ret FinOK LoopI LoopW EndW
theorem back_vec (m M : Nat) (l : List Con) (bg : Nat → Bool) (g : GS) (v to k : Nat) (hm : m ≤ 200) (hl : OkC m l) (hll : l.length ≤ 2000) (hinv : Inv l bg g) (hv : v < m) (hk : 0 < k) (hkm : k ≤ m) (hal : al l g k v) (hto : it l g k v = to) (hmin : ∀ j, 0 < j → j < k → it l g j v ≠ to) :
    Ret Try.prog 25 [.ptr 5 0, .u (.int .i64 v), .u (.int .i64 to)] (stOb l m g) (M + 6) fun d obs nx' => d = .vec (M + 6) k ∧ obs = stOb l m g ++ [(M + 6, .vec 3 1 (intR (pl l (-1) g k v).reverse))] ∧ nx' = M + 7 := by
  simp only [stOb, consU, ints]
  (refine Ret.of_bodyW Try.func25 rfl (by simp) fun Γ hn => ?_); simp only [entry, List.zipIdx_cons, List.zipIdx_nil, List.map_cons, List.map_nil, Nat.zero_add, Try.ntmps25]
  repeat' (first
    | (refine H_cons ?_; simp)
    | (refine H_nil ?_; simp)
    | (refine V_sseq ?_; simp)
    | (refine V_sblock ?_; simp)
    | fail)
  refine V_wk _ (Wk.own 7 3 1 (by decide) rfl) ?_
  simp [St.own]
  refine V_loopO (α := { q : Nat // q ≤ k }) [0, 2] (fun q => [(1, .u (.int .i64 (it l g q.1 v))), (7, .vec (M + 6) q.1), (8, .u (.bool (decide (q.1 = 0))))])
    (fun q => [(M + 6, .vec 3 1 (intR (pl l (-1) g q.1 v))), (5, .box [.u (.sl (l.map fun c => [.int .i64 c.A, .int .i64 c.B, .int .i64 c.N])), .u (.sl ((List.range m).map fun v => [.sl ((nats (fromS l v)).map fun n => [.int .i64 n])])), .vec 1 m, .vec 3 m, .vec 4 m]), (1, .vec 3 1 (intR (lst m g.val))), (3, .vec 3 1 (intR (lst m (preI (-1) g)))), (4, .vec 4 1 (boolR (bst m g.kn)))]) (M + 7) (fun q => k - q.1) ⟨0, by omega⟩ ?_ ?_
  · exact (Wk.cut rfl (by simp [hn, St.lp]) (by simp [wkO, St.lp, getK_cons, getK, Ob.under, D.under, under_rowsD, under_entD, pure_intR, under_intR, pure_boolR, under_boolR, it, pl, intR]) (by simp [wkU, St.lp, keepE, getK_cons, getK, D.under, pure_intR, under_intR, pure_boolR, under_boolR, it, pl, intR]) (by simp [wkE, St.lp, keepE, getK_cons, getK, pure_intR, under_intR, pure_boolR, under_boolR, it, pl, intR] <;> (try (intros; simp_all; done)) <;> (try (intros; omega)) <;> (try grind)))
  rintro ⟨q, hq⟩
  simp [St.lp, St.only, keepE, getK_cons, getK]
  have q9 := pl_len l (-1) g q v
  by_cases hqk : q < k
  · have hxi : it l g q v < m := it_lt hl q hv
    obtain ⟨I, c, q1, q2, q3, q4⟩ := back_at (-1) hl hinv hxi (al_at hal hqk)
    have q5 := it_succ l g q v
    rw [← q5] at q3
    have q6 := pl_snoc l (-1) g q v
    rw [q1] at q6
    have q7 : intR (pl l (-1) g q v) ++ [[D.u (.int .i64 (I : Int))]] = intR (pl l (-1) g (q + 1) v) := by rw [q6]; simp [intR]
    have q8 := intR_lenR (pl l (-1) g q v)
    by_cases hq0 : q = 0
    · subst hq0
      repeat' (first
    | (refine H_cons ?_; simp [intR_len, intR_getE, lst_len, lst_getE, hxi, q1, q2, q3, q4, q7, q8, q9])
    | (refine HD4_val rfl ?_; simp [intR_len, intR_getE, lst_len, lst_getE, hxi, q1, q2, q3, q4, q7, q8, q9])
    | (refine H_nil ?_; simp [intR_len, intR_getE, lst_len, lst_getE, hxi, q1, q2, q3, q4, q7, q8, q9])
    | (refine V_sseq ?_; simp [intR_len, intR_getE, lst_len, lst_getE, hxi, q1, q2, q3, q4, q7, q8, q9])
    | (refine V_scond ?_; simp [intR_len, intR_getE, lst_len, lst_getE, hxi, q1, q2, q3, q4, q7, q8, q9])
    | (refine HD4_nil (hC _ (by kernel_rfl)) (hk _ ?_); clear hC hk C k; simp only [RK_seq, RK_seq_ret, RK_seq_exit, RK_blk, RK_blk_ret, RK_blk_exit, RK_loop, RK_loop_ret, RK_loop_exit, RK_done])
    | (refine V_drawX rfl (by kernel_rfl) (by first | (simp [hn]; done) | (simp [hn]; omega) | fail) fun C k hC hk => ?_; simp [intR_len, intR_getE, lst_len, lst_getE, hxi, q1, q2, q3, q4, q7, q8, q9])
    | (refine V_sregion ?_; simp [intR_len, intR_getE, lst_len, lst_getE, hxi, q1, q2, q3, q4, q7, q8, q9])
    | (refine V_skip ?_; simp only [RK_seq, RK_seq_ret, RK_seq_exit, RK_blk, RK_blk_ret, RK_blk_exit, RK_loop, RK_loop_ret, RK_loop_exit, RK_done])
    | fail)
      refine LoopW.next ⟨0 + 1, by omega⟩ (by simp; omega) ?_
      exact (Wk.ren1 (M + 6) (M + 8) rfl (by simp [hn]) (by simp [hn]) (by simp [pure_intR, under_intR, pure_boolR, under_boolR]) (by simp [wkER, rho1, St.lp, keepE, getK_cons, getK, getK_del, getK_setOb, D.under, D.le, D.ren, pure_intR, under_intR, pure_boolR, under_boolR] <;> (try (intros; simp_all; done)) <;> (try omega)) (by simp [wkR, wkR_tail1, endsIn_here, endsIn_cons, del_cons, del_fam, rho1, St.lp, getK_cons, getK, getK_del, getK_setOb, obR, leU, pureRow, pureRows, Ob.under, D.under, D.le, D.ren, pure_intR, under_intR, pure_boolR, under_boolR] <;> (try (intros; simp_all; done)) <;> (try omega)))
    · have hne := hmin q (by omega) hqk
      have hne2 : ¬ ((it l g q v : Nat) : Int) = (to : Int) := fun e => hne (by omega)
      repeat' (first
    | (refine H_cons ?_; simp [hq0, hne, hne2, intR_len, intR_getE, lst_len, lst_getE, hxi, q1, q2, q3, q4, q7, q8, q9])
    | (refine HD4_val rfl ?_; simp [hq0, hne, hne2, intR_len, intR_getE, lst_len, lst_getE, hxi, q1, q2, q3, q4, q7, q8, q9])
    | (refine H_nil ?_; simp [hq0, hne, hne2, intR_len, intR_getE, lst_len, lst_getE, hxi, q1, q2, q3, q4, q7, q8, q9])
    | (refine ⟨by omega, ?_⟩)
    | (refine V_sseq ?_; simp [hq0, hne, hne2, intR_len, intR_getE, lst_len, lst_getE, hxi, q1, q2, q3, q4, q7, q8, q9])
    | (refine V_scond ?_; simp [hq0, hne, hne2, intR_len, intR_getE, lst_len, lst_getE, hxi, q1, q2, q3, q4, q7, q8, q9])
    | (refine HD4_nil (hC _ (by kernel_rfl)) (hk _ ?_); clear hC hk C k; simp only [RK_seq, RK_seq_ret, RK_seq_exit, RK_blk, RK_blk_ret, RK_blk_exit, RK_loop, RK_loop_ret, RK_loop_exit, RK_done])
    | (refine V_drawX rfl (by kernel_rfl) (by first | (simp [hn]; done) | (simp [hn]; omega) | fail) fun C k hC hk => ?_; simp [hq0, hne, hne2, intR_len, intR_getE, lst_len, lst_getE, hxi, q1, q2, q3, q4, q7, q8, q9])
    | (refine V_sregion ?_; simp [hq0, hne, hne2, intR_len, intR_getE, lst_len, lst_getE, hxi, q1, q2, q3, q4, q7, q8, q9])
    | (refine V_skip ?_; simp only [RK_seq, RK_seq_ret, RK_seq_exit, RK_blk, RK_blk_ret, RK_blk_exit, RK_loop, RK_loop_ret, RK_loop_exit, RK_done])
    | fail)
      refine LoopW.next ⟨q + 1, by omega⟩ (by simp; omega) ?_
      exact (Wk.ren1 (M + 6) (M + 8) rfl (by simp [hn]) (by simp [hn]) (by simp [pure_intR, under_intR, pure_boolR, under_boolR]) (by simp [wkER, rho1, St.lp, keepE, getK_cons, getK, getK_del, getK_setOb, D.under, D.le, D.ren, pure_intR, under_intR, pure_boolR, under_boolR] <;> (try (intros; simp_all; done)) <;> (try omega)) (by simp [wkR, wkR_tail1, endsIn_here, endsIn_cons, del_cons, del_fam, rho1, St.lp, getK_cons, getK, getK_del, getK_setOb, obR, leU, pureRow, pureRows, Ob.under, D.under, D.le, D.ren, pure_intR, under_intR, pure_boolR, under_boolR] <;> (try (intros; simp_all; done)) <;> (try omega)))
  obtain rfl : q = k := by omega
  have hq0 : ¬ q = 0 := by omega
  have hrr := reverse_ret 3 (M + 6) (M + 7) (by omega) (pl l (-1) g q v) (by omega)
  rw [q9] at hrr
  rw [hto]
  repeat' (first
    | (refine H_cons ?_; simp [hq0, q9, del, getK_append, getK_cons])
    | (refine H_nil ?_; simp [hq0, q9, del, getK_append, getK_cons])
    | (refine V_sseq ?_; simp [hq0, q9, del, getK_append, getK_cons])
    | (refine V_scond ?_; simp [hq0, q9, del, getK_append, getK_cons])
    | (refine V_ret ?_; simp only [RK_seq, RK_seq_ret, RK_seq_exit, RK_blk, RK_blk_ret, RK_blk_exit, RK_loop, RK_loop_ret, RK_loop_exit, RK_done])
    | (refine V_exit ?_; simp [RK_seq, RK_seq_ret, RK_seq_exit, RK_blk, RK_blk_ret, RK_blk_exit, RK_loop, RK_loop_ret, RK_loop_exit, RK_done])
    | (refine CallP.ret1 (hrr) (by simp [getK]) (by rfl) (by first | assumption | simp) (by rfl) (by simp) ?_; rintro d o n' hn' ⟨rfl, rfl, rfl⟩; (try simp at hn'); (try simp [hq0, q9, del, getK_append, getK_cons]))
    | fail)
  refine EndW.wk { n := _, env := [(6, .vec (M + 6) q)], obs := [(5, .box [.u (.sl (l.map fun c => [.int .i64 c.A, .int .i64 c.B, .int .i64 c.N])), .u (.sl ((List.range m).map fun v => [.sl ((nats (fromS l v)).map fun n => [.int .i64 n])])), .vec 1 m, .vec 3 m, .vec 4 m]), (1, .vec 3 1 (intR (lst m g.val))), (3, .vec 3 1 (intR (lst m (preI (-1) g)))), (4, .vec 4 1 (boolR (bst m g.kn))), (M + 6, .vec 3 1 (intR (pl l (-1) g q v).reverse))], next := M + 7 } (Wk.cut rfl (by simp [hn, St.lp]) (by simp [wkO, St.lp, getK_cons, getK, Ob.under, D.under, under_rowsD, under_entD, pure_intR, under_intR, pure_boolR, under_boolR, del, getK_append]) (by simp [wkU, St.lp, keepE, getK_cons, getK, D.under, pure_intR, under_intR, pure_boolR, under_boolR, del, getK_append]) (by simp [wkE, St.lp, keepE, getK_cons, getK, pure_intR, under_intR, pure_boolR, under_boolR, del, getK_append] <;> (try (intros; simp_all; done)) <;> (try (intros; omega)) <;> (try grind))) (EndW.here ?_)
  (first | (refine EndOK.fin (.inr rfl) ?_) | (refine EndOK.fin (.inl rfl) ?_)); simp [resD, oneOrTup, Try.results25]
  exact FinOK.here (by simp) ⟨by simp, by simp, rfl⟩
theorem back_vx (m nx : Nat) (hnx : 6 ≤ nx) (l : List Con) (bg : Nat → Bool) (g : GS) (v to k : Nat) (hm : m ≤ 200) (hl : OkC m l) (hll : l.length ≤ 2000) (hinv : Inv l bg g) (hv : v < m) (hk : 0 < k) (hkm : k ≤ m) (hal : al l g k v) (hto : it l g k v = to) (hmin : ∀ j, 0 < j → j < k → it l g j v ≠ to) :
    RetX Try.prog 25 [.ptr 5 0, .u (.int .i64 v), .u (.int .i64 to)] (stOb l m g) nx fun q o n => q = .val (mkD (.vec k) nx) ∧ (∀ y, getK o y = getK ((nx, Ob.vec 3 1 (intR (pl l (-1) g k v).reverse)) :: stOb l m g) y) ∧ n = nx + 1 := by
  obtain ⟨M, rfl⟩ : ∃ M, nx = M + 6 := ⟨nx - 6, by omega⟩
  refine (back_vec m M l bg g v to k hm hl hll hinv hv hk hkm hal hto hmin).x.mono fun r o n h => ?_
  cases r with
  | val d =>
    obtain ⟨rfl, rfl, rfl⟩ := h
    refine ⟨rfl, fun y => ?_, rfl⟩
    simp only [stOb, List.cons_append, List.nil_append, getK_cons, getK]
    by_cases h : y = M + 6
    · subst h; simp
    · simp [h]
  | pan c => exact h.elim
theorem solve_vec (l : List Con) (n : Int) (hK : (n.toNat + 1) * (n.toNat * l.length) ≤ 3000000) (hr : rightL l n = true) (y : Nat → Int) (hy : Sol l y) : ∃ V, SolveSpec l n V [] 0 ∧ Ret Try.prog 9 [.u (consU l), .u (.int .i64 n)] [] 0 fun d o nx => d = .tup [.vec 1 V.length, .u .nil, .u (.int .i64 0)] ∧ o = [(1, .vec 3 1 (intR V))] ∧ nx = 2 := by
  have h0 := right_fun l n
  rw [hr] at h0
  obtain ⟨e1, e2, e3, e4⟩ := rightL_out hr
  generalize hN : n.toNat = m at e1 e2 e4 hK
  subst e1
  have h1 := every_fun m (by omega)
  have h2 := newSearch_ret m l (bgAll m) (everyL m) e2 e4 e3 (everyL_mem m) (by rw [everyL_len]; omega)
  have hout := runP_out (nxt := nextP) e4 nextP_mem nextP_len (m + 1) 0 (PI.zero e4 (everyL_mem m)) (by rw [everyL_len]; exact Nat.le_refl _) (fun h => by omega) (by omega)
  rcases hF : runP nextP l (m + 1) (GS.zero (bgAll m)) (everyL m) with ⟨gF, ret⟩
  have h3 := run_ret m l (bgAll m) (everyL m) gF ret e2 e4 e3 hK (by rw [everyL_len]; exact Nat.le_refl _) (everyL_mem m) hF
  rw [hF] at hout
  simp only [Nat.zero_add] at hout
  obtain ⟨hret, _⟩ := hout.feasible e4 hy
  refine ⟨_, solve_ok hr (hret ▸ hout) (Nat.le_refl _), ?_⟩
  have hneg : ret < 0 := by omega
  (refine Ret.of_bodyW Try.func9 rfl (by simp) fun Γ hn => ?_); simp only [entry, List.zipIdx_cons, List.zipIdx_nil, List.map_cons, List.map_nil, Nat.zero_add, Try.ntmps9]
  simp only [consU, ints, stOb, nats, List.map_map] at h0 h1 h2 h3 ⊢
  repeat' (first
    | (refine H_cons ?_; simp [hneg])
    | (refine H_nil ?_; simp [hneg])
    | (refine V_sseq ?_; simp [hneg])
    | (refine V_scond ?_; simp [hneg])
    | (refine V_ret ?_; simp only [RK_seq, RK_seq_ret, RK_seq_exit, RK_blk, RK_blk_ret, RK_blk_exit, RK_loop, RK_loop_ret, RK_loop_exit, RK_done])
    | (refine V_skip ?_; simp only [RK_seq, RK_seq_ret, RK_seq_exit, RK_blk, RK_blk_ret, RK_blk_exit, RK_loop, RK_loop_ret, RK_loop_exit, RK_done])
    | (refine CallP.fun_ (h0) (by first | rfl | fail) (by first | assumption | (simp; done) | fail) (by first | (simp [hneg]; done) | (simp [hneg]; rfl) | fail) (by first | (simp; done) | fail) (fun d hd => ?_); subst hd; (try simp [hneg]))
    | (refine CallP.fun_ (h1) (by first | rfl | fail) (by first | assumption | (simp; done) | fail) (by first | (simp [hneg]; done) | (simp [hneg]; rfl) | fail) (by first | (simp; done) | fail) (fun d hd => ?_); subst hd; (try simp [hneg]))
    | (refine CallP.ret0 (h2) (by rfl) (by first | assumption | simp) (by rfl) (by simp) ?_; rintro d o n' hn' ⟨rfl, rfl, rfl⟩; (try simp at hn'); (try simp [hneg]))
    | (refine CallP.ret_ (h3) (by rfl) (by first | assumption | simp) (by rfl) (by simp) ?_; rintro d o n' hn' ⟨rfl, rfl, rfl⟩; (try simp at hn'); (try simp [hneg]))
    | fail)
  refine EndW.wk { n := _, env := [(4, .vec 1 m), (5, .u .nil), (6, .u (.int .i64 0))], obs := [(1, .vec 3 1 (intR (lst m gF.val)))], next := 2 } (Wk.cut rfl (by simp [hn, St.lp]) (by simp [wkO, St.lp, getK_cons, getK, Ob.under, D.under, under_rowsD, under_entD, pure_intR, under_intR, pure_boolR, under_boolR]) (by simp [wkU, St.lp, keepE, getK_cons, getK, D.under, pure_intR, under_intR, pure_boolR, under_boolR]) (by simp [wkE, St.lp, keepE, getK_cons, getK, pure_intR, under_intR, pure_boolR, under_boolR] <;> (try (intros; simp_all; done)) <;> (try (intros; omega)) <;> (try grind))) (EndW.here ?_)
  (first | (refine EndOK.fin (.inr rfl) ?_) | (refine EndOK.fin (.inl rfl) ?_)); simp [resD, oneOrTup, Try.results9]
  exact FinOK.here (by simp) ⟨by simp [lst_len], by simp, rfl⟩
theorem most_vec (l : List Con) (n a b : Int) (hK : (n.toNat + 1) * (n.toNat * l.length) ≤ 3000000) (hcond : condM l n a b = true) (y : Nat → Int) (hy : Sol l y) (hsome : ∀ M C E, MostSpec l n a b M C E → E = 0 ∧ C ≠ []) :
    ∃ M C, MostSpec l n a b M C 0 ∧ Ret Try.prog 11 [.u (consU l), .u (.int .i64 n), .u (.int .i64 a), .u (.int .i64 b)] [] 0 fun d o nx => d = .tup [.u (.int .i64 M), .vec 6 C.length, .u (.int .i64 0)] ∧ o = [(6, .vec 3 1 (intR C))] ∧ nx = 7 := by
  have h0 := right_fun l n
  obtain ⟨hr, ha0, han, hb0, hbn⟩ := condM_out hcond
  obtain ⟨V, C, E, hspec, h1⟩ := solve_ex l n hK
  rw [hr] at h0
  obtain ⟨e1, e2, e3, e4⟩ := rightL_out hr
  generalize hN : n.toNat = m at e1 e2 e4 hK
  subst e1
  obtain ⟨A, rfl⟩ := Int.eq_ofNat_of_zero_le ha0
  obtain ⟨B, rfl⟩ := Int.eq_ofNat_of_zero_le hb0
  have hBm : B < m := by omega
  have hAm : A < m := by omega
  rcases hspec with ⟨hx, _⟩ | ⟨_, ⟨y2, hgr, _, rfl, rfl, rfl⟩ | ⟨hun, rfl, rfl, _⟩⟩
  · rw [hr] at hx; cases hx
  case inr.inr => exact absurd hy (hun y)
  have h2 := newSearch_ret m l (bgOne B) [(B : Int)] e2 e4 e3 (one_mem m B hBm) (by simp)
  have hout := runP_out (nxt := nextP) e4 nextP_mem nextP_len (m + 1) 0 (PI.zero e4 (one_mem m B hBm)) (by simp; omega) (fun h => by omega) (by omega)
  rcases hF : runP nextP l (m + 1) (GS.zero (bgOne B)) [(B : Int)] with ⟨gF, ret⟩
  have h3 := run_ret m l (bgOne B) [(B : Int)] gF ret e2 e4 e3 hK (by simp; omega) (one_mem m B hBm) hF
  rw [hF] at hout
  simp only [Nat.zero_add] at hout
  obtain ⟨rfl, hfix⟩ := hout.feasible e4 hy
  have hinv := hout.1
  cases hka : gF.kn A with
  | false => exact absurd (hsome _ _ _ (most_none hcond hy hout (Nat.le_refl _) hka)).1 (by decide)
  | true =>
    obtain ⟨hb0, hbv, hends⟩ := Fix.ends e4 hy hinv hfix
    obtain ⟨z, hkm, hal, hkb, hkmin⟩ := hends A hAm hka
    have hms := most_some (-1) hcond hy e4 hout (Nat.le_refl _) hka hkm hal hkb
    have hne := (hsome _ _ _ hms).2
    have hk0 : 0 < z := by
      rcases Nat.eq_zero_or_pos z with h | h
      · subst h; exact absurd rfl hne
      · exact h
    have hAB : ¬ A = B := fun e => (hkmin 0 hk0) (by simpa [it] using e)
    refine ⟨_, _, hms, ?_⟩
    have h5 := fun nx' (h : 6 ≤ nx') => back_vx m nx' h l (bgOne B) gF A B z e2 e4 e3 hinv hAm hk0 (by omega) hal hkb (fun j h1 h2 => hkmin j h2)
    simp only [consU, ints, stOb, nats, List.map_map] at h5
    have hAB2 : ¬ (A : Int) = (B : Int) := by omega
    have hAB3 : ¬ A = B := hAB
    have hpl := pl_len l (-1) gF z A
    (refine Ret.of_bodyW Try.func11 rfl (by simp) fun Γ hn => ?_); simp only [entry, List.zipIdx_cons, List.zipIdx_nil, List.map_cons, List.map_nil, Nat.zero_add, Try.ntmps11]
    simp only [consU, ints, stOb, nats, List.map_map, List.map_cons, List.map_nil] at h0 h1 h2 h3 ⊢
    repeat' (first
    | (refine H_cons ?_; simp [ha0, han, hb0, hbn])
    | (refine H_nil ?_; simp [ha0, han, hb0, hbn])
    | (refine ⟨by omega, ?_⟩)
    | (refine V_sseq ?_; simp [ha0, han, hb0, hbn])
    | (refine V_scond ?_; simp [ha0, han, hb0, hbn])
    | (refine V_skip ?_; simp only [RK_seq, RK_seq_ret, RK_seq_exit, RK_blk, RK_blk_ret, RK_blk_exit, RK_loop, RK_loop_ret, RK_loop_exit, RK_done])
    | (refine ⟨?_, by omega⟩)
    | (intro hc <;> (try (exfalso; omega)))
    | (refine CallP.fun_ (h0) (by first | rfl | fail) (by first | assumption | (simp; done) | fail) (by first | (simp [ha0, han, hb0, hbn]; done) | (simp [ha0, han, hb0, hbn]; rfl) | fail) (by first | (simp; done) | fail) (fun d hd => ?_); subst hd; (try simp [ha0, han, hb0, hbn]))
    | (refine CallP.fun_ (h1) (by first | rfl | fail) (by first | assumption | (simp; done) | fail) (by first | (simp [ha0, han, hb0, hbn]; done) | (simp [ha0, han, hb0, hbn]; rfl) | fail) (by first | (simp; done) | fail) (fun d hd => ?_); subst hd; (try simp [ha0, han, hb0, hbn]))
    | fail)
    refine CallP_frzV (by first | rfl | fail) ?_
    simp [frzN, frz1, frz_env, frz_obs, St.frz, St.frzS, frzS, fv, fzVec, fzMap, fzBox, frzObS, frz_entD, frz_rowsD, del, frz, frzOb]
    refine CallP_wk (s' := { n := 75, env := [(45, .u (.sl [[.int .i64 B]])), (43, .u (.int .i64 m)), (42, .u (.sl (l.map fun c => [.int .i64 c.A, .int .i64 c.B, .int .i64 c.N]))), (2, .u (.int .i64 A)), (3, .u (.int .i64 B))], obs := [], next := 0 }) (Wk.cut rfl (by simp [hn, St.lp]) (by simp [wkO, St.lp, getK_cons, getK, Ob.under, D.under, under_rowsD, under_entD]) (by simp [wkU, St.lp, keepE, getK_cons, getK, D.under]) (by simp [wkE, St.lp, keepE, getK_cons, getK] <;> (try (intros; simp_all; done)) <;> (try (intros; omega)) <;> (try grind))) ?_
    repeat' (first
    | (refine H_cons ?_; simp)
    | (refine H_nil ?_; simp)
    | (refine V_sseq ?_; simp)
    | (refine CallP.ret0 (h2) (by rfl) (by first | assumption | simp) (by rfl) (by simp) ?_; rintro d o n' hn' ⟨rfl, rfl, rfl⟩; (try simp at hn'); (try simp))
    | fail)
    refine CallP_frzV (by first | rfl | fail) ?_
    simp [frzN, frz1, frz_env, frz_obs, St.frz, St.frzS, frzS, fv, fzVec, fzMap, fzBox, frzObS, frz_entD, frz_rowsD, frz_intR, frz_boolR, del, frz, frzOb]
    refine CallP_wk (s' := { n := 75, env := [(49, .u (.sl [[.int .i64 B]])), (47, .ptr 5 0), (14, .ptr 5 0), (2, .u (.int .i64 A)), (3, .u (.int .i64 B))], obs := [(5, .box [.u (.sl (l.map fun c => [.int .i64 c.A, .int .i64 c.B, .int .i64 c.N])), .u (.sl ((List.range m).map fun v => [.sl ((fromS l v).map ((fun n => [U.int .i64 n]) ∘ Int.ofNat))])), .vec 1 m, .vec 3 m, .vec 4 m]), (1, .vec 3 1 (intR (lst m (GS.zero (bgOne B)).val))), (3, .vec 3 1 (intR (lst m (preI (-1) (GS.zero (bgOne B)))))), (4, .vec 4 1 (boolR (bst m (GS.zero (bgOne B)).kn)))], next := 6 }) (Wk.cut rfl (by simp [hn, St.lp]) (by simp [wkO, St.lp, getK_cons, getK, Ob.under, D.under, under_rowsD, under_entD, pure_intR, under_intR, pure_boolR, under_boolR]) (by simp [wkU, St.lp, keepE, getK_cons, getK, D.under, pure_intR, under_intR, pure_boolR, under_boolR]) (by simp [wkE, St.lp, keepE, getK_cons, getK, pure_intR, under_intR, pure_boolR, under_boolR] <;> (try (intros; simp_all; done)) <;> (try (intros; omega)) <;> (try grind))) ?_
    repeat' (first
    | (refine HD4_callN _ ⟨[], some (.vec 3 1 (intR (pl l (-1) gF z A).reverse)), .vec z⟩ (.vec 3 1 (intR (pl l (-1) gF z A).reverse)) (fun nx' h' => h5 nx' (by simp at h'; omega)) ⟨rfl, rfl⟩ (by rfl) (by first | assumption | (simp; done) | fail) (by rfl) (by first | (simp [intR_len, intR_getE, lst_len, lst_getE, boolR_len, boolR_getE, bst_len, bst_getE, hAm, hka, hAB2, hAB3, under_intR, under_boolR, pure_intR, pure_boolR, getK_cons, getK, getK_append, getK_del, getK_setOb, applyW, del]; done) | fail) (by first | (simp [intR_len, intR_getE, lst_len, lst_getE, boolR_len, boolR_getE, bst_len, bst_getE, hAm, hka, hAB2, hAB3, under_intR, under_boolR, pure_intR, pure_boolR, D.under, Ob.under, under_rowsD]; done) | fail) (by simp) ?_; (try simp [intR_len, intR_getE, lst_len, lst_getE, boolR_len, boolR_getE, bst_len, bst_getE, hAm, hka, hAB2, hAB3, under_intR, under_boolR, pure_intR, pure_boolR]))
    | (refine H_cons ?_; simp [intR_len, intR_getE, lst_len, lst_getE, boolR_len, boolR_getE, bst_len, bst_getE, hAm, hka, hAB2, hAB3, under_intR, under_boolR, pure_intR, pure_boolR])
    | (refine HD4_val rfl ?_; simp [intR_len, intR_getE, lst_len, lst_getE, boolR_len, boolR_getE, bst_len, bst_getE, hAm, hka, hAB2, hAB3, under_intR, under_boolR, pure_intR, pure_boolR])
    | (refine H_nil ?_; simp [intR_len, intR_getE, lst_len, lst_getE, boolR_len, boolR_getE, bst_len, bst_getE, hAm, hka, hAB2, hAB3, under_intR, under_boolR, pure_intR, pure_boolR])
    | (refine V_sseq ?_; simp [intR_len, intR_getE, lst_len, lst_getE, boolR_len, boolR_getE, bst_len, bst_getE, hAm, hka, hAB2, hAB3, under_intR, under_boolR, pure_intR, pure_boolR])
    | (refine V_scond ?_; simp [intR_len, intR_getE, lst_len, lst_getE, boolR_len, boolR_getE, bst_len, bst_getE, hAm, hka, hAB2, hAB3, under_intR, under_boolR, pure_intR, pure_boolR])
    | (refine HD4_nil (hC _ (by kernel_rfl)) (hk _ ?_); clear hC hk C k; simp only [RK_seq, RK_seq_ret, RK_seq_exit, RK_blk, RK_blk_ret, RK_blk_exit, RK_loop, RK_loop_ret, RK_loop_exit, RK_done])
    | (refine V_drawX rfl (by kernel_rfl) (by first | (simp [hn]; done) | (simp [hn]; omega) | fail) fun C k hC hk => ?_; simp [intR_len, intR_getE, lst_len, lst_getE, boolR_len, boolR_getE, bst_len, bst_getE, hAm, hka, hAB2, hAB3, under_intR, under_boolR, pure_intR, pure_boolR])
    | (refine V_ret ?_; simp only [RK_seq, RK_seq_ret, RK_seq_exit, RK_blk, RK_blk_ret, RK_blk_exit, RK_loop, RK_loop_ret, RK_loop_exit, RK_done])
    | (refine V_skip ?_; simp only [RK_seq, RK_seq_ret, RK_seq_exit, RK_blk, RK_blk_ret, RK_blk_exit, RK_loop, RK_loop_ret, RK_loop_exit, RK_done])
    | (refine CallP.ret_ (h3) (by rfl) (by first | assumption | simp) (by rfl) (by simp) ?_; rintro d o n' hn' ⟨rfl, rfl, rfl⟩; (try simp at hn'); (try simp [intR_len, intR_getE, lst_len, lst_getE, boolR_len, boolR_getE, bst_len, bst_getE, hAm, hka, hAB2, hAB3, under_intR, under_boolR, pure_intR, pure_boolR]))
    | fail)
    refine EndW.wk { n := _, env := [(8, .u (.int .i64 (gF.val A))), (9, .vec 6 z), (10, .u (.int .i64 0))], obs := [(6, .vec 3 1 (intR (pl l (-1) gF z A).reverse))], next := 7 } (Wk.cut rfl (by simp [hn, St.lp]) (by simp [wkO, St.lp, getK_cons, getK, Ob.under, D.under, under_rowsD, under_entD, pure_intR, under_intR, pure_boolR, under_boolR]) (by simp [wkU, St.lp, keepE, getK_cons, getK, D.under, pure_intR, under_intR, pure_boolR, under_boolR]) (by simp [wkE, St.lp, keepE, getK_cons, getK, pure_intR, under_intR, pure_boolR, under_boolR] <;> (try (intros; simp_all; done)) <;> (try (intros; omega)) <;> (try grind))) (EndW.here ?_)
    (first | (refine EndOK.fin (.inr rfl) ?_) | (refine EndOK.fin (.inl rfl) ?_)); simp [resD, oneOrTup, Try.results11]
    exact FinOK.here (by simp) ⟨by simp [hpl], by simp, rfl⟩
end Go.Proofs.Ytdkadmchdocjbaa
