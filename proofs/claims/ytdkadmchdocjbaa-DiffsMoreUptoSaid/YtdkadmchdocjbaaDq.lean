/- Layer 13: the chain that leads to a variable: the walk. -/
import Derived.Test.YtdkadmchdocjbaaDp
set_option linter.all false
set_option maxRecDepth 100000
set_option maxHeartbeats 8000000
set_option linter.all false
namespace Go.Proofs.Ytdkadmchdocjbaa
open Go Go.VL
attribute [local simp] HS hcons hstep evPure opd uOf putOK St.put St.at getK binD binI binS binB nilD aggD eqUs cmpK lookD lookR rangeD Go.VL.nextD entryD keyD valU keyU lookK mkV entD_nil lookK_entD updK_entD1 updK_entD2 updK_entD3 allUE allUE_entD makeMapD mapUpdD mapEff updK valM Key.kk shiftI arith unD convD pickD loadD cellsAt fieldAddrD fieldD indexAddrD indexD sliceD cutD lenD minmaxD nilCheckD buildD fillD cellsD isOne ones setAll mkAgg allU allocD boxD storeD St.add buildSliceD appendD rowsOf makeD setOb getK_setOb getK_del getK_cons stripL strip guardTmp entry chunks zcells valD argsV argsW argW argU1 argU0 argsU0 argsU1 calleeOf scalarD scalarU delAll effD St.effS RK_seq RK_seq_ret RK_seq_exit RK_blk RK_blk_ret RK_blk_exit RK_loop RK_loop_ret RK_loop_exit RK_done vs_seq vs_block vs_skip vs_label vs_exit vs_ret vs_cond vs_region vs_loop vs_draw vs_range vs_scope applyW mkD rdIds lentIds callOf calleeOf freeOp D.ids Op.operands Call.operands isEffOp makeIfD typeAssertD conc concs conc1 uOfV panicD IntKind.bits allU2 allU2_append List.take_of_length_le List.range_succ
attribute [local irreducible] V G H HD HD2 HD4 HD4h RetX RunK Eff CallP CallV EndOK Fun Ret FinOK LoopI LoopW EndW
theorem back_ret (m M : Nat) (l : List Con) (bg : Nat → Bool) (g : GS) (v to k : Nat) (hm : m ≤ 200) (hl : OkC m l) (hll : l.length ≤ 2000) (hinv : Inv l bg g) (hv : v < m) (hk : 0 < k) (hkm : k ≤ m) (hal : al l g k v) (hto : it l g k v = to) (hmin : ∀ j, 0 < j → j < k → it l g j v ≠ to) :
    Ret Try.prog 25 [.ptr 5 0, .u (.int .i64 v), .u (.int .i64 to)] (stOb l m g) (M + 6) fun d obs nx' => d = .u (ints (pl l (-1) g k v).reverse) ∧ obs = stOb l m g ∧ nx' = M + 6 := by
  simp only [stOb, consU, ints]
  (refine Ret.of_bodyW Try.func25 rfl (by simp) fun Γ hn => ?_); simp only [entry, List.zipIdx_cons, List.zipIdx_nil, List.map_cons, List.map_nil, Nat.zero_add, Try.ntmps25]
  repeat' (first
    | (refine H_cons ?_; simp)
    | (refine H_nil ?_; simp)
    | (refine V_sseq ?_; simp)
    | (refine V_sblock ?_; simp)
    | fail)
  refine V_wk _ (Wk.own 7 3 1 (by decide) rfl) ?_
  simp [St.own]
  refine V_loopO (α := { q : Nat // q ≤ k }) [0, 2] (fun q => [(1, .u (.int .i64 (it l g q.1 v))), (7, .vec (M + 6) q.1), (8, .u (.bool (decide (q.1 = 0))))])
    (fun q => [(M + 6, .vec 3 1 (intR (pl l (-1) g q.1 v))), (5, .box [.u (.sl (l.map fun c => [.int .i64 c.A, .int .i64 c.B, .int .i64 c.N])), .u (.sl ((List.range m).map fun v => [.sl ((nats (fromS l v)).map fun n => [.int .i64 n])])), .vec 1 m, .vec 3 m, .vec 4 m]), (1, .vec 3 1 (intR (lst m g.val))), (3, .vec 3 1 (intR (lst m (preI (-1) g)))), (4, .vec 4 1 (boolR (bst m g.kn)))]) (M + 7) (fun q => k - q.1) ⟨0, by omega⟩ ?_ ?_
  · exact (Wk.cut rfl (by simp [hn, St.lp]) (by simp [wkO, St.lp, getK_cons, getK, Ob.under, D.under, under_rowsD, under_entD, pure_intR, under_intR, pure_boolR, under_boolR, it, pl, intR]) (by simp [wkU, St.lp, keepE, getK_cons, getK, D.under, pure_intR, under_intR, pure_boolR, under_boolR, it, pl, intR]) (by simp [wkE, St.lp, keepE, getK_cons, getK, pure_intR, under_intR, pure_boolR, under_boolR, it, pl, intR] <;> (try (intros; simp_all; done)) <;> (try (intros; omega)) <;> (try grind)))
  rintro ⟨q, hq⟩
  simp [St.lp, St.only, keepE, getK_cons, getK]
  have q9 := pl_len l (-1) g q v
  by_cases hqk : q < k
  · have hxi : it l g q v < m := it_lt hl q hv
    obtain ⟨I, c, q1, q2, q3, q4⟩ := back_at (-1) hl hinv hxi (al_at hal hqk)
    have q5 := it_succ l g q v
    rw [← q5] at q3
    have q6 := pl_snoc l (-1) g q v
    rw [q1] at q6
    have q7 : intR (pl l (-1) g q v) ++ [[D.u (.int .i64 (I : Int))]] = intR (pl l (-1) g (q + 1) v) := by rw [q6]; simp [intR]
    have q8 := intR_lenR (pl l (-1) g q v)
    by_cases hq0 : q = 0
    · subst hq0
      repeat' (first
    | (refine H_cons ?_; simp [intR_len, intR_getE, lst_len, lst_getE, hxi, q1, q2, q3, q4, q7, q8, q9])
    | (refine HD4_val rfl ?_; simp [intR_len, intR_getE, lst_len, lst_getE, hxi, q1, q2, q3, q4, q7, q8, q9])
    | (refine H_nil ?_; simp [intR_len, intR_getE, lst_len, lst_getE, hxi, q1, q2, q3, q4, q7, q8, q9])
    | (refine V_sseq ?_; simp [intR_len, intR_getE, lst_len, lst_getE, hxi, q1, q2, q3, q4, q7, q8, q9])
    | (refine V_scond ?_; simp [intR_len, intR_getE, lst_len, lst_getE, hxi, q1, q2, q3, q4, q7, q8, q9])
    | (refine HD4_nil (hC _ (by kernel_rfl)) (hk _ ?_); clear hC hk C k; simp only [RK_seq, RK_seq_ret, RK_seq_exit, RK_blk, RK_blk_ret, RK_blk_exit, RK_loop, RK_loop_ret, RK_loop_exit, RK_done])
    | (refine V_drawX rfl (by kernel_rfl) (by first | (simp [hn]; done) | (simp [hn]; omega) | fail) fun C k hC hk => ?_; simp [intR_len, intR_getE, lst_len, lst_getE, hxi, q1, q2, q3, q4, q7, q8, q9])
    | (refine V_sregion ?_; simp [intR_len, intR_getE, lst_len, lst_getE, hxi, q1, q2, q3, q4, q7, q8, q9])
    | (refine V_skip ?_; simp only [RK_seq, RK_seq_ret, RK_seq_exit, RK_blk, RK_blk_ret, RK_blk_exit, RK_loop, RK_loop_ret, RK_loop_exit, RK_done])
    | fail)
      refine LoopW.next ⟨0 + 1, by omega⟩ (by simp; omega) ?_
      exact (Wk.ren1 (M + 6) (M + 8) rfl (by simp [hn]) (by simp [hn]) (by simp [pure_intR, under_intR, pure_boolR, under_boolR]) (by simp [wkER, rho1, St.lp, keepE, getK_cons, getK, getK_del, getK_setOb, D.under, D.le, D.ren, pure_intR, under_intR, pure_boolR, under_boolR] <;> (try (intros; simp_all; done)) <;> (try omega)) (by simp [wkR, wkR_tail1, endsIn_here, endsIn_cons, del_cons, del_fam, rho1, St.lp, getK_cons, getK, getK_del, getK_setOb, obR, leU, pureRow, pureRows, Ob.under, D.under, D.le, D.ren, pure_intR, under_intR, pure_boolR, under_boolR] <;> (try (intros; simp_all; done)) <;> (try omega)))
    · have hne := hmin q (by omega) hqk
      have hne2 : ¬ ((it l g q v : Nat) : Int) = (to : Int) := fun e => hne (by omega)
      repeat' (first
    | (refine H_cons ?_; simp [hq0, hne, hne2, intR_len, intR_getE, lst_len, lst_getE, hxi, q1, q2, q3, q4, q7, q8, q9])
    | (refine HD4_val rfl ?_; simp [hq0, hne, hne2, intR_len, intR_getE, lst_len, lst_getE, hxi, q1, q2, q3, q4, q7, q8, q9])
    | (refine H_nil ?_; simp [hq0, hne, hne2, intR_len, intR_getE, lst_len, lst_getE, hxi, q1, q2, q3, q4, q7, q8, q9])
    | (refine ⟨by omega, ?_⟩)
    | (refine V_sseq ?_; simp [hq0, hne, hne2, intR_len, intR_getE, lst_len, lst_getE, hxi, q1, q2, q3, q4, q7, q8, q9])
    | (refine V_scond ?_; simp [hq0, hne, hne2, intR_len, intR_getE, lst_len, lst_getE, hxi, q1, q2, q3, q4, q7, q8, q9])
    | (refine HD4_nil (hC _ (by kernel_rfl)) (hk _ ?_); clear hC hk C k; simp only [RK_seq, RK_seq_ret, RK_seq_exit, RK_blk, RK_blk_ret, RK_blk_exit, RK_loop, RK_loop_ret, RK_loop_exit, RK_done])
    | (refine V_drawX rfl (by kernel_rfl) (by first | (simp [hn]; done) | (simp [hn]; omega) | fail) fun C k hC hk => ?_; simp [hq0, hne, hne2, intR_len, intR_getE, lst_len, lst_getE, hxi, q1, q2, q3, q4, q7, q8, q9])
    | (refine V_sregion ?_; simp [hq0, hne, hne2, intR_len, intR_getE, lst_len, lst_getE, hxi, q1, q2, q3, q4, q7, q8, q9])
    | (refine V_skip ?_; simp only [RK_seq, RK_seq_ret, RK_seq_exit, RK_blk, RK_blk_ret, RK_blk_exit, RK_loop, RK_loop_ret, RK_loop_exit, RK_done])
    | fail)
      refine LoopW.next ⟨q + 1, by omega⟩ (by simp; omega) ?_
      exact (Wk.ren1 (M + 6) (M + 8) rfl (by simp [hn]) (by simp [hn]) (by simp [pure_intR, under_intR, pure_boolR, under_boolR]) (by simp [wkER, rho1, St.lp, keepE, getK_cons, getK, getK_del, getK_setOb, D.under, D.le, D.ren, pure_intR, under_intR, pure_boolR, under_boolR] <;> (try (intros; simp_all; done)) <;> (try omega)) (by simp [wkR, wkR_tail1, endsIn_here, endsIn_cons, del_cons, del_fam, rho1, St.lp, getK_cons, getK, getK_del, getK_setOb, obR, leU, pureRow, pureRows, Ob.under, D.under, D.le, D.ren, pure_intR, under_intR, pure_boolR, under_boolR] <;> (try (intros; simp_all; done)) <;> (try omega)))
  obtain rfl : q = k := by omega
  have hq0 : ¬ q = 0 := by omega
  have hrr := reverse_ret 3 (M + 6) (M + 7) (by omega) (pl l (-1) g q v) (by omega)
  rw [q9] at hrr
  rw [hto]
  repeat' (first
    | (refine H_cons ?_; simp [hq0, q9, del, getK_append, getK_cons])
    | (refine H_nil ?_; simp [hq0, q9, del, getK_append, getK_cons])
    | (refine V_sseq ?_; simp [hq0, q9, del, getK_append, getK_cons])
    | (refine V_scond ?_; simp [hq0, q9, del, getK_append, getK_cons])
    | (refine V_ret ?_; simp only [RK_seq, RK_seq_ret, RK_seq_exit, RK_blk, RK_blk_ret, RK_blk_exit, RK_loop, RK_loop_ret, RK_loop_exit, RK_done])
    | (refine V_exit ?_; simp [RK_seq, RK_seq_ret, RK_seq_exit, RK_blk, RK_blk_ret, RK_blk_exit, RK_loop, RK_loop_ret, RK_loop_exit, RK_done])
    | (refine CallP.ret1 (hrr) (by simp [getK]) (by rfl) (by first | assumption | simp) (by rfl) (by simp) ?_; rintro d o n' hn' ⟨rfl, rfl, rfl⟩; (try simp at hn'); (try simp [hq0, q9, del, getK_append, getK_cons]))
    | fail)
  refine EndW.wk _ (Wk.frz (e := 3) (sz := 1) (M + 6) [] (us := (pl l (-1) g q v).reverse.map fun z => [U.int .i64 z]) (by simp [getK_cons]) (intR_all _)) ?_
  simp [St.frz, St.frzS, frzS, fv, fzVec, frzObS, del, q9]
  refine EndW.wk { n := _, env := [(6, .u (.sl ((pl l (-1) g q v).reverse.map fun z => [U.int .i64 z])))], obs := [(5, .box [.u (.sl (l.map fun c => [.int .i64 c.A, .int .i64 c.B, .int .i64 c.N])), .u (.sl ((List.range m).map fun v => [.sl ((nats (fromS l v)).map fun n => [.int .i64 n])])), .vec 1 m, .vec 3 m, .vec 4 m]), (1, .vec 3 1 (intR (lst m g.val))), (3, .vec 3 1 (intR (lst m (preI (-1) g)))), (4, .vec 4 1 (boolR (bst m g.kn)))], next := M + 6 } (Wk.cut rfl (by simp [hn, St.lp]) (by simp [wkO, St.lp, getK_cons, getK, Ob.under, D.under, under_rowsD, under_entD, pure_intR, under_intR, pure_boolR, under_boolR]) (by simp [wkU, St.lp, keepE, getK_cons, getK, D.under, pure_intR, under_intR, pure_boolR, under_boolR]) (by simp [wkE, St.lp, keepE, getK_cons, getK, pure_intR, under_intR, pure_boolR, under_boolR] <;> (try (intros; simp_all; done)) <;> (try (intros; omega)) <;> (try grind))) (EndW.here ?_)
  (first | (refine EndOK.fin (.inr rfl) ?_) | (refine EndOK.fin (.inl rfl) ?_)); simp [resD, oneOrTup, Try.results25]
  exact FinOK.here (by simp) ⟨by simp, by simp, rfl⟩
theorem back_x (m nx : Nat) (hnx : 6 ≤ nx) (l : List Con) (bg : Nat → Bool) (g : GS) (v to k : Nat) (hm : m ≤ 200) (hl : OkC m l) (hll : l.length ≤ 2000) (hinv : Inv l bg g) (hv : v < m) (hk : 0 < k) (hkm : k ≤ m) (hal : al l g k v) (hto : it l g k v = to) (hmin : ∀ j, 0 < j → j < k → it l g j v ≠ to) :
    RetX Try.prog 25 [.ptr 5 0, .u (.int .i64 v), .u (.int .i64 to)] (stOb l m g) nx fun r o n => r = .val (.u (ints (pl l (-1) g k v).reverse)) ∧ o = stOb l m g ∧ n = nx := by
  obtain ⟨M, rfl⟩ : ∃ M, nx = M + 6 := ⟨nx - 6, by omega⟩
  refine (back_ret m M l bg g v to k hm hl hll hinv hv hk hkm hal hto hmin).x.mono fun r o n h => ?_
  cases r with
  | val d =>
    obtain ⟨rfl, rfl, rfl⟩ := h
    exact ⟨rfl, rfl, rfl⟩
  | pan c => exact h.elim
end Go.Proofs.Ytdkadmchdocjbaa
