/- Layer 13: copies, numbers below n, the opposite order: the walks. -/
import Derived.Test.YtdkadmchdocjbaaDn
set_option linter.all false
set_option maxRecDepth 100000
set_option maxHeartbeats 8000000
set_option linter.all false
namespace Go.Proofs.Ytdkadmchdocjbaa
open Go Go.VL Go.Proofs
attribute [local simp] hcons hstep evPure opd uOf putOK St.put St.at getK binD binI binS binB nilD aggD eqUs cmpK lookD lookR rangeD Go.VL.nextD entryD keyD valU keyU lookK mkV entD_nil lookK_entD updK_entD1 updK_entD2 updK_entD3 allUE allUE_entD makeMapD mapUpdD mapEff updK valM Key.kk shiftI arith unD convD pickD loadD cellsAt fieldAddrD fieldD indexAddrD indexD sliceD cutD lenD minmaxD nilCheckD buildD fillD cellsD isOne ones setAll mkAgg allU allocD boxD storeD St.add buildSliceD appendD rowsOf makeD setOb getK_setOb getK_del getK_cons stripL strip guardTmp entry chunks zcells valD argsV argsW argW argU1 argU0 argsU0 argsU1 calleeOf scalarD scalarU delAll effD St.effS RK_seq RK_seq_ret RK_seq_exit RK_blk RK_blk_ret RK_blk_exit RK_loop RK_loop_ret RK_loop_exit RK_done vs_seq vs_block vs_skip vs_label vs_exit vs_ret vs_cond vs_region vs_loop vs_draw vs_range vs_scope applyW mkD rdIds lentIds callOf calleeOf freeOp D.ids Op.operands Call.operands isEffOp makeIfD typeAssertD conc concs conc1 uOfV panicD IntKind.bits allU2 allU2_append List.take_of_length_le List.range_succ
attribute [local irreducible] V G H HD HD2 RunK Eff CallP CallV EndOK Fun Ret FinOK LoopI LoopW EndW
theorem clone_fun (l : List Int) (hl : l.length ≤ 1000000) : Fun Try.prog 34 [.u (ints l)] (· = .u (ints l)) := by
  cases l with
  | nil =>
    (refine Fun.of_bodyW Try.func34 rfl (by simp) fun Γ hn => ?_); simp only [entry, List.zipIdx_cons, List.zipIdx_nil, List.map_cons, List.map_nil, Nat.zero_add, Try.ntmps34]
    simp only [ints, List.map_nil]
    refine V_nilsplit (x := 0) rfl ?_ (fun a cp => ?_)
    · repeat' (first
    | (refine H_cons ?_; simp)
    | (refine H_nil ?_; simp)
    | (refine V_sseq ?_; simp)
    | (refine V_scond ?_; simp)
    | (refine V_ret ?_; simp only [RK_seq, RK_seq_ret, RK_seq_exit, RK_blk, RK_blk_ret, RK_blk_exit, RK_loop, RK_loop_ret, RK_loop_exit, RK_done])
    | fail)
      refine EndW.norm (EndW.here ?_)
      (refine EndOK.val (.inr rfl) ?_; simp [resD, oneOrTup, pureD, Try.results34, frz_obs, frz_env, norm_obs, norm_env, frz, frzOb, frzS, fv, fzVec, fzMap, fzBox, frzObS, frz_entD, frz_rowsD, normD, normU, norm1, normOb])
    · repeat' (first
    | (refine H_cons ?_; simp)
    | (refine H_nil ?_; simp)
    | (refine V_sseq ?_; simp)
    | (refine V_scond ?_; simp)
    | (refine V_ret ?_; simp only [RK_seq, RK_seq_ret, RK_seq_exit, RK_blk, RK_blk_ret, RK_blk_exit, RK_loop, RK_loop_ret, RK_loop_exit, RK_done])
    | (refine V_skip ?_; simp only [RK_seq, RK_seq_ret, RK_seq_exit, RK_blk, RK_blk_ret, RK_blk_exit, RK_loop, RK_loop_ret, RK_loop_exit, RK_done])
    | fail)
      (refine EndW.frzN 1 ?_; simp [frzN, frz1, frz_env, frz_obs, St.frz, St.frzS, frzS, fv, fzVec, fzMap, fzBox, frzObS, frz_entD, frz_rowsD, del, frz, frzOb])
      refine EndW.norm (EndW.here ?_)
      (refine EndOK.val (.inr rfl) ?_; simp [resD, oneOrTup, pureD, Try.results34, frz_obs, frz_env, norm_obs, norm_env, frz, frzOb, frzS, fv, fzVec, fzMap, fzBox, frzObS, frz_entD, frz_rowsD, normD, normU, norm1, normOb])
  | cons x l =>
    simp only [List.length_cons] at hl
    (refine Fun.of_bodyW Try.func34 rfl (by simp) fun Γ hn => ?_); simp only [entry, List.zipIdx_cons, List.zipIdx_nil, List.map_cons, List.map_nil, Nat.zero_add, Try.ntmps34]
    simp only [ints, List.map_cons]
    repeat' (first
    | (refine H_cons ?_; simp)
    | (refine H_nil ?_; simp)
    | (refine ⟨by omega, ?_⟩)
    | (refine V_sseq ?_; simp)
    | (refine V_scond ?_; simp)
    | (refine V_ret ?_; simp only [RK_seq, RK_seq_ret, RK_seq_exit, RK_blk, RK_blk_ret, RK_blk_exit, RK_loop, RK_loop_ret, RK_loop_exit, RK_done])
    | (refine V_skip ?_; simp only [RK_seq, RK_seq_ret, RK_seq_exit, RK_blk, RK_blk_ret, RK_blk_exit, RK_loop, RK_loop_ret, RK_loop_exit, RK_done])
    | fail)
    (refine EndW.frzN 1 ?_; simp [frzN, frz1, frz_env, frz_obs, St.frz, St.frzS, frzS, fv, fzVec, fzMap, fzBox, frzObS, frz_entD, frz_rowsD, del, frz, frzOb])
    refine EndW.here ?_
    (refine EndOK.val (.inr rfl) ?_; simp [resD, oneOrTup, pureD, Try.results34, frz_obs, frz_env, norm_obs, norm_env, frz, frzOb, frzS, fv, fzVec, fzMap, fzBox, frzObS, frz_entD, frz_rowsD, normD, normU, norm1, normOb])
def everyL (m : Nat) : List Int := nats (List.range m)
theorem everyL_len (m : Nat) : (everyL m).length = m := by simp [everyL]
theorem everyL_mem (m : Nat) (x : Int) : x ∈ everyL m ↔ 0 ≤ x ∧ x < m ∧ bgAll m x.toNat = true := by
  simp only [everyL, nats, List.mem_map, List.mem_range, bgAll, decide_eq_true_eq]
  constructor
  · rintro ⟨i, hi, rfl⟩
    simp
    omega
  · rintro ⟨h1, h2, _⟩
    exact ⟨x.toNat, by omega, by simp; omega⟩
theorem every_fun (m : Nat) (hm : m ≤ 1000) : Fun Try.prog 23 [.u (.int .i64 m)] (· = .u (ints (everyL m))) := by
  simp only [ints]
  (refine Fun.of_bodyW Try.func23 rfl (by simp) fun Γ hn => ?_); simp only [entry, List.zipIdx_cons, List.zipIdx_nil, List.map_cons, List.map_nil, Nat.zero_add, Try.ntmps23]
  repeat' (first
    | (refine H_cons ?_; simp)
    | (refine H_nil ?_; simp)
    | (refine V_sseq ?_; simp)
    | (refine V_sblock ?_; simp)
    | fail)
  refine V_wk _ (Wk.own 3 3 1 (by decide) rfl) ?_
  simp [St.own]
  refine V_loopO (α := { k : Nat // k ≤ m }) [5] (fun k => [(3, .vec 0 k.1), (6, .u (.int .i64 k.1))]) (fun k => [(0, .vec 3 1 (intR (everyL k.1)))]) 1 (fun k => m - k.1) ⟨0, by omega⟩ ?_ ?_
  · exact (Wk.cut rfl (by simp [hn, St.lp]) (by simp [wkO, St.lp, getK_cons, getK, Ob.under, D.under, under_rowsD, under_entD, pure_intR, under_intR, everyL, intR]) (by simp [wkU, St.lp, keepE, getK_cons, getK, D.under, pure_intR, under_intR, everyL, intR]) (by simp [wkE, St.lp, keepE, getK_cons, getK, pure_intR, under_intR, everyL, intR] <;> (try (intros; simp_all; done)) <;> (try (intros; omega)) <;> (try grind)))
  rintro ⟨k, hk⟩
  simp [St.lp, St.only, keepE, getK_cons, getK]
  by_cases hlt : k < m
  · have q7 : intR (everyL k) ++ [[D.u (.int .i64 (k : Int))]] = intR (everyL (k + 1)) := by simp [everyL, intR, List.range_succ]
    have q8 := intR_lenR (everyL k)
    have q9 := everyL_len k
    repeat' (first
    | (refine H_cons ?_; simp [hlt, intR_len, q7, q8, q9])
    | (refine H_nil ?_; simp [hlt, intR_len, q7, q8, q9])
    | (refine ⟨by omega, ?_⟩)
    | (refine V_sseq ?_; simp [hlt, intR_len, q7, q8, q9])
    | (refine V_sregion ?_; simp [hlt, intR_len, q7, q8, q9])
    | (refine V_skip ?_; simp only [RK_seq, RK_seq_ret, RK_seq_exit, RK_blk, RK_blk_ret, RK_blk_exit, RK_loop, RK_loop_ret, RK_loop_exit, RK_done])
    | fail)
    refine LoopW.next ⟨k + 1, by omega⟩ (by simp; omega) ?_
    exact (Wk.ren1 (0) (2) rfl (by simp [hn]) (by simp [hn]) (by simp [pure_intR, under_intR]) (by simp [wkER, rho1, St.lp, keepE, getK_cons, getK, getK_del, getK_setOb, D.under, D.le, D.ren, pure_intR, under_intR] <;> (try (intros; simp_all; done)) <;> (try omega)) (by simp [wkR, wkR_tail1, endsIn_here, endsIn_cons, del_cons, del_fam, rho1, St.lp, getK_cons, getK, getK_del, getK_setOb, obR, leU, pureRow, pureRows, Ob.under, D.under, D.le, D.ren, pure_intR, under_intR] <;> (try (intros; simp_all; done)) <;> (try omega)))
  · obtain rfl : k = m := by omega
    have q9 := everyL_len k
    repeat' (first
    | (refine H_cons ?_; simp [hlt])
    | (refine H_nil ?_; simp [hlt])
    | (refine V_sseq ?_; simp [hlt])
    | (refine V_ret ?_; simp only [RK_seq, RK_seq_ret, RK_seq_exit, RK_blk, RK_blk_ret, RK_blk_exit, RK_loop, RK_loop_ret, RK_loop_exit, RK_done])
    | (refine V_exit ?_; simp [RK_seq, RK_seq_ret, RK_seq_exit, RK_blk, RK_blk_ret, RK_blk_exit, RK_loop, RK_loop_ret, RK_loop_exit, RK_done])
    | fail)
    refine EndW.wk _ (Wk.frz 0 [] (us := (everyL k).map fun z => [U.int .i64 z]) rfl (intR_all _)) ?_
    simp [St.frz, St.frzS, frzS, fv, fzVec, frzObS, del, q9]
    refine EndW.norm (EndW.here ?_)
    (refine EndOK.val (.inr rfl) ?_; simp [resD, oneOrTup, pureD, Try.results23, frz_obs, frz_env, norm_obs, norm_env, frz, frzOb, frzS, fv, fzVec, fzMap, fzBox, frzObS, frz_entD, frz_rowsD, normD, normU, norm1, normOb, q9])
theorem reverse_ret (t j nx : Nat) (hj : j < nx) (zs : List Int) (hz : zs.length ≤ 1099511627776) : Ret Try.prog 37 [.vec j zs.length] [(j, .vec t 1 (intR zs))] nx
    fun d obs nx' => d = .tup [] ∧ obs = [(j, .vec t 1 (intR zs.reverse))] ∧ nx' = nx :=
  Ret.ofRow (ret := fun _ _ => .tuple #[]) hj (by simp) (by simp only [maxLen]; omega) (fun blk cap w hH hb _ _ => (Try.slices_Reverse_int blk 0 cap zs w hH (by omega)).mono fun e w' ⟨h1, q, h2⟩ => ⟨h1, q, #[], by rw [h2, Go.Sort.grow_empty]⟩)
    (fun h0 p cap w => by subst h0; exact Try.slices_Reverse_int_empty p cap w) (.inl ⟨rfl, fun _ _ => rfl⟩)
end Go.Proofs.Ytdkadmchdocjbaa
