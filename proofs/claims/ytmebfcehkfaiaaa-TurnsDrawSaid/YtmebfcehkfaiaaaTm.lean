/- Layer 23: who comes next, the reference's: the walk. -/
import Derived.Test.YtmebfcehkfaiaaaTl
set_option linter.all false
set_option maxRecDepth 100000
set_option maxHeartbeats 8000000
set_option linter.all false
namespace Go.Proofs.Ytmebfcehkfaiaaa
open Go Go.VL
theorem lst_take_snoc {l : List Int} {i : Nat} {a : Int} (h0 : 0 < i) (hx : l[i]? = some a) : lst (l.take (i + 1)) = if a < minS (l.take i) then i else lst (l.take i) := by
  have hi : i < l.length := (List.getElem?_eq_some_iff.1 hx).1
  have hne : l.take i ≠ [] := fun h => by
    have h1 : (l.take i).length = i := by rw [List.length_take]; omega
    rw [h] at h1; simp at h1; omega
  have hm := minS_snoc hne a
  rw [take_snoc hx]
  by_cases ha : a < minS (l.take i)
  · rw [if_pos ha, lst, hm, show min (minS (l.take i)) a = a by omega, List.idxOf_append, if_neg (fun h => by have := minS_le h; omega), List.idxOf_cons_self, List.length_take]
    omega
  · rw [if_neg ha, lst, hm, show min (minS (l.take i)) a = minS (l.take i) by omega, List.idxOf_append, if_pos (minS_mem hne)]
    rfl
attribute [local simp] hcons hstep evPure opd uOf putOK St.put St.at getK binD binI binS binB nilD aggD eqUs cmpK lookD lookR rangeD nextD entryD keyD valU keyU lookK mkV entD_nil lookK_entD updK_entD1 updK_entD2 updK_entD3 allUE allUE_entD makeMapD mapUpdD mapEff updK valM Key.kk shiftI arith unD convD pickD loadD cellsAt fieldAddrD fieldD indexAddrD indexD sliceD cutD lenD minmaxD nilCheckD buildD fillD cellsD isOne ones setAll mkAgg allU allocD boxD storeD St.add buildSliceD appendD rowsOf makeD setOb getK_setOb getK_del getK_cons stripL strip guardTmp entry chunks zcells valD argsV argsW argW argU1 argU0 argsU0 argsU1 calleeOf scalarD scalarU delAll effD St.effS RK_seq RK_seq_ret RK_seq_exit RK_blk RK_blk_ret RK_blk_exit RK_loop RK_loop_ret RK_loop_exit RK_done vs_seq vs_block vs_skip vs_label vs_exit vs_ret vs_cond vs_region vs_loop vs_draw vs_range vs_scope applyW mkD rdIds lentIds callOf calleeOf freeOp D.ids Op.operands Call.operands isEffOp IntKind.bits allU2 allU2_append List.take_of_length_le List.range_succ
attribute [local irreducible] V G H HD HD2 RunK Eff CallP CallV EndOK Fun Ret FinOK LoopI LoopW EndW
theorem rnext_fun (l had : List Int) (kind seed period : Int) (hl : l.length ≤ 1000000) (hh : had.length ≤ 1000000) : Fun Try.prog 10 [.u (ints l), .u (ints had), .u (.int .i64 kind), .u (.int .i64 seed), .u (.int .i64 period)]
    (· = .tup [.u (.int .i64 (nextS l had kind seed period).1), .u (.bool (nextS l had kind seed period).2)]) := by
  have hrf := right_fun l hl
  by_cases hb : rightS l = true ∧ l ≠ [] ∧ had.length = l.length ∧ 0 ≤ kind ∧ kind < 3 ∧ 0 ≤ period
  · obtain ⟨h0, h2, h3, hk0, hk3, h5⟩ := hb
    rw [h0] at hrf
    have h2b : ¬ l.length = 0 := fun h => h2 (List.eq_nil_of_length_eq_zero h)
    have hne : had ≠ [] := fun h => by subst h; exact h2b h3.symm
    have h3b : (had.length : Int) = l.length := by omega
    have h5b : ¬ period < 0 := by omega
    have hk0b : ¬ kind < 0 := by omega
    have hk3b : ¬ 3 ≤ kind := by omega
    have hp : 0 < had.length := by omega
    obtain ⟨a0, ha0⟩ : ∃ a, had[0]? = some a := ⟨_, List.getElem?_eq_getElem hp⟩
    have hone : lst (had.take 1) = 0 := by
      cases had with
      | nil => exact absurd rfl hne
      | cons b l => simp [lst, minS]
    (refine Fun.of_body Try.func10 rfl (by simp) fun Γ hn => ?_); simp only [entry, List.zipIdx_cons, List.zipIdx_nil, List.map_cons, List.map_nil, Nat.zero_add, Try.ntmps10]
    repeat' (first
    | (refine H_cons ?_; simp [h2, h3, h3b, hk0b, hk3b, h5b])
    | (refine HD2_val rfl ?_; simp [h2, h3, h3b, hk0b, hk3b, h5b])
    | (refine HD_cons ?_; simp [h2, h3, h3b, hk0b, hk3b, h5b])
    | (refine HD2_chg rfl ?_; simp [h2, h3, h3b, hk0b, hk3b, h5b])
    | (refine H_nil ?_; simp [h2, h3, h3b, hk0b, hk3b, h5b])
    | (refine ⟨by omega, ?_⟩)
    | (refine V_sseq ?_; simp [h2, h3, h3b, hk0b, hk3b, h5b])
    | (refine V_scond ?_; simp [h2, h3, h3b, hk0b, hk3b, h5b])
    | (refine HD2_nil (hC _ (by kernel_rfl)) (hk _ ?_); clear hC hk C k; simp only [RK_seq, RK_seq_ret, RK_seq_exit, RK_blk, RK_blk_ret, RK_blk_exit, RK_loop, RK_loop_ret, RK_loop_exit, RK_done])
    | (refine HD_nil ?_)
    | (refine hk _ ?_; clear hk k; simp only [RK_seq, RK_seq_ret, RK_seq_exit, RK_blk, RK_blk_ret, RK_blk_exit, RK_loop, RK_loop_ret, RK_loop_exit, RK_done])
    | (refine V_drawV rfl (by kernel_rfl) (by kernel_rfl) fun k hk => ?_; simp [h2, h3, h3b, hk0b, hk3b, h5b])
    | (refine V_drawN rfl (by kernel_rfl) (by kernel_rfl) (by simp [hn]) fun C k hC hk => ?_; simp [h2, h3, h3b, hk0b, hk3b, h5b])
    | (refine HD3_val rfl ?_; simp [h2, h3, h3b, hk0b, hk3b, h5b])
    | (refine HD3_put ?_; simp [h2, h3, h3b, hk0b, hk3b, h5b])
    | (refine HD3_chg rfl rfl ?_; simp [h2, h3, h3b, hk0b, hk3b, h5b])
    | (refine HD3_nil (hC _ _ (by kernel_rfl) (by kernel_rfl)) (hk _ ?_); clear hC hk C k; simp only [RK_seq, RK_seq_ret, RK_seq_exit, RK_blk, RK_blk_ret, RK_blk_exit, RK_loop, RK_loop_ret, RK_loop_exit, RK_done]; simp [St.ins, insL, putE, getK_setOb, getK_cons])
    | (refine V_drawE rfl (by kernel_rfl) (by kernel_rfl) (by simp [hn]) fun C k hC hk => ?_; simp [h2, h3, h3b, hk0b, hk3b, h5b])
    | (refine HD_guardU rfl (by simp [h2, h3, h3b, hk0b, hk3b, h5b]) ?_; simp [h2, h3, h3b, hk0b, hk3b, h5b])
    | (refine HD_guard rfl (by simp [h2, h3, h3b, hk0b, hk3b, h5b]) (fun hc => ?_) (fun hc => ?_) <;> (try simp [h2, h3, h3b, hk0b, hk3b, h5b] at hc) <;> (try (exfalso; omega)) <;> (try simp [h2, h3, h3b, hk0b, hk3b, h5b]))
    | (refine HD2_guardU rfl (by simp [h2, h3, h3b, hk0b, hk3b, h5b]) ?_; simp [h2, h3, h3b, hk0b, hk3b, h5b])
    | (refine HD2_guard rfl (by simp [h2, h3, h3b, hk0b, hk3b, h5b]) (fun hc => ?_) (fun hc => ?_) <;> (try simp [h2, h3, h3b, hk0b, hk3b, h5b] at hc) <;> (try (exfalso; omega)) <;> (try simp [h2, h3, h3b, hk0b, hk3b, h5b]))
    | (refine V_sblock ?_; simp [h2, h3, h3b, hk0b, hk3b, h5b])
    | (refine V_sregion ?_; simp [h2, h3, h3b, hk0b, hk3b, h5b])
    | (refine V_ret ?_; simp only [RK_seq, RK_seq_ret, RK_seq_exit, RK_blk, RK_blk_ret, RK_blk_exit, RK_loop, RK_loop_ret, RK_loop_exit, RK_done])
    | (refine V_skip ?_; simp only [RK_seq, RK_seq_ret, RK_seq_exit, RK_blk, RK_blk_ret, RK_blk_exit, RK_loop, RK_loop_ret, RK_loop_exit, RK_done])
    | (refine V_exit ?_; simp [RK_seq, RK_seq_ret, RK_seq_exit, RK_blk, RK_blk_ret, RK_blk_exit, RK_loop, RK_loop_ret, RK_loop_exit, RK_done])
    | (refine ⟨?_, by omega⟩)
    | (refine ⟨fun hc => ?_, fun hc => ?_⟩ <;> (try (exfalso; omega)))
    | (intro hc <;> (try (exfalso; omega)))
    | (refine CallV.fun_ (hrf) (by first | rfl | fail) (by first | assumption | (simp; done) | fail) (by first | (simp [h2, h3, h3b, hk0b, hk3b, h5b]; done) | (simp [h2, h3, h3b, hk0b, hk3b, h5b]; rfl) | fail) (by first | (simp; done) | fail) ?_ <;> (try simp [h2, h3, h3b, hk0b, hk3b, h5b]))
    | (refine CallP.fun_ (hrf) (by first | rfl | fail) (by first | assumption | (simp; done) | fail) (by first | (simp [h2, h3, h3b, hk0b, hk3b, h5b]; done) | (simp [h2, h3, h3b, hk0b, hk3b, h5b]; rfl) | fail) (by first | (simp; done) | fail) (fun d hd => ?_); subst hd; (try simp [h2, h3, h3b, hk0b, hk3b, h5b])))
    refine V_loopF (α := { i : Nat // i ≤ had.length ∧ ∀ y ∈ had.take i, 0 ≤ y }) [0, 1, 2, 3, 4] (fun i => [(12, .u (.int .i64 (lst (had.take (max i.1 1))))), (13, .u (.int .i64 i.1))]) (fun i => had.length - i.1) ⟨0, by omega, by simp⟩ ?_ ?_
    · exact (Wk.cut rfl (by simp [hn]) (by simp [wkO, St.lp, getK_cons, getK, Ob.under, D.under, under_rowsD, under_entD, hone]) (by simp [wkU, St.lp, keepE, getK_cons, getK, D.under, hone]) (by simp [wkE, St.lp, keepE, getK_cons, getK, hone] <;> (try (intros; simp_all; done)) <;> (try (intros; omega)) <;> (try grind)))
    rintro ⟨i, hi, hpos⟩
    simp [St.lp, St.only, keepE, getK_cons, getK]
    rcases hx : had[i]? with _ | a
    · have hge : had.length ≤ i := by simpa using hx
      obtain rfl : i = had.length := by omega
      have htk : had.take (max had.length 1) = had := List.take_of_length_le (by omega)
      rw [List.take_length] at hpos
      have hmin : 0 ≤ minS had := hpos _ (minS_mem hne)
      have hok : okN l had kind period = true := by simp [okN, h0, h2, h3, hk0, hk3, h5, hmin]
      rw [htk]
      by_cases hk2 : kind = 2
      · subst hk2
        have ho : nextS l had 2 seed period = (l.getD (lst had) 0, true) := by simp [nextS, hok]
        rw [ho]
        have hlt : lst had < l.length := by have := lst_lt hne; omega
        repeat' (first
    | (refine H_cons ?_; simp [h2, h3, h3b, hlt, hx])
    | (refine HD2_val rfl ?_; simp [h2, h3, h3b, hlt, hx])
    | (refine HD_cons ?_; simp [h2, h3, h3b, hlt, hx])
    | (refine HD2_chg rfl ?_; simp [h2, h3, h3b, hlt, hx])
    | (refine H_nil ?_; simp [h2, h3, h3b, hlt, hx])
    | (refine ⟨by omega, ?_⟩)
    | (refine V_sseq ?_; simp [h2, h3, h3b, hlt, hx])
    | (refine V_scond ?_; simp [h2, h3, h3b, hlt, hx])
    | (refine HD2_nil (hC _ (by kernel_rfl)) (hk _ ?_); clear hC hk C k; simp only [RK_seq, RK_seq_ret, RK_seq_exit, RK_blk, RK_blk_ret, RK_blk_exit, RK_loop, RK_loop_ret, RK_loop_exit, RK_done])
    | (refine HD_nil ?_)
    | (refine hk _ ?_; clear hk k; simp only [RK_seq, RK_seq_ret, RK_seq_exit, RK_blk, RK_blk_ret, RK_blk_exit, RK_loop, RK_loop_ret, RK_loop_exit, RK_done])
    | (refine V_drawV rfl (by kernel_rfl) (by kernel_rfl) fun k hk => ?_; simp [h2, h3, h3b, hlt, hx])
    | (refine V_drawN rfl (by kernel_rfl) (by kernel_rfl) (by simp [hn]) fun C k hC hk => ?_; simp [h2, h3, h3b, hlt, hx])
    | (refine HD3_val rfl ?_; simp [h2, h3, h3b, hlt, hx])
    | (refine HD3_put ?_; simp [h2, h3, h3b, hlt, hx])
    | (refine HD3_chg rfl rfl ?_; simp [h2, h3, h3b, hlt, hx])
    | (refine HD3_nil (hC _ _ (by kernel_rfl) (by kernel_rfl)) (hk _ ?_); clear hC hk C k; simp only [RK_seq, RK_seq_ret, RK_seq_exit, RK_blk, RK_blk_ret, RK_blk_exit, RK_loop, RK_loop_ret, RK_loop_exit, RK_done]; simp [St.ins, insL, putE, getK_setOb, getK_cons])
    | (refine V_drawE rfl (by kernel_rfl) (by kernel_rfl) (by simp [hn]) fun C k hC hk => ?_; simp [h2, h3, h3b, hlt, hx])
    | (refine HD_guardU rfl (by simp [h2, h3, h3b, hlt, hx]) ?_; simp [h2, h3, h3b, hlt, hx])
    | (refine HD_guard rfl (by simp [h2, h3, h3b, hlt, hx]) (fun hc => ?_) (fun hc => ?_) <;> (try simp [h2, h3, h3b, hlt, hx] at hc) <;> (try (exfalso; omega)) <;> (try simp [h2, h3, h3b, hlt, hx]))
    | (refine HD2_guardU rfl (by simp [h2, h3, h3b, hlt, hx]) ?_; simp [h2, h3, h3b, hlt, hx])
    | (refine HD2_guard rfl (by simp [h2, h3, h3b, hlt, hx]) (fun hc => ?_) (fun hc => ?_) <;> (try simp [h2, h3, h3b, hlt, hx] at hc) <;> (try (exfalso; omega)) <;> (try simp [h2, h3, h3b, hlt, hx]))
    | (refine V_sblock ?_; simp [h2, h3, h3b, hlt, hx])
    | (refine V_sregion ?_; simp [h2, h3, h3b, hlt, hx])
    | (refine V_ret ?_; simp only [RK_seq, RK_seq_ret, RK_seq_exit, RK_blk, RK_blk_ret, RK_blk_exit, RK_loop, RK_loop_ret, RK_loop_exit, RK_done])
    | (refine V_skip ?_; simp only [RK_seq, RK_seq_ret, RK_seq_exit, RK_blk, RK_blk_ret, RK_blk_exit, RK_loop, RK_loop_ret, RK_loop_exit, RK_done])
    | (refine V_exit ?_; simp [RK_seq, RK_seq_ret, RK_seq_exit, RK_blk, RK_blk_ret, RK_blk_exit, RK_loop, RK_loop_ret, RK_loop_exit, RK_done])
    | (refine ⟨?_, by omega⟩)
    | (refine ⟨fun hc => ?_, fun hc => ?_⟩ <;> (try (exfalso; omega)))
    | (intro hc <;> (try (exfalso; omega))))
        all_goals
          (refine EndOK.val (.inr rfl) ?_; simp [resD, oneOrTup, pureD, Try.results10])
          try simp [hlt]
      · have ho : nextS l had kind seed period = ((orderS l kind seed).getD (period.toNat % l.length) 0, true) := by simp [nextS, hok, hk2]
        rw [ho]
        have hof := rorder_fun l kind seed hl
        have hol := orderS_length (seed := seed) (okN_true hok).1
        generalize orderS l kind seed = o at hof hol
        obtain ⟨P, rfl⟩ := Int.eq_ofNat_of_zero_le h5
        have hpm : (P : Int).tmod (l.length : Int) = ((P % l.length : Nat) : Int) := (Int.ofNat_tmod P l.length).symm
        have hpm2 : ((P : Int) % (l.length : Int)).toNat = P % l.length := by rw [← Int.natCast_emod, Int.toNat_natCast]
        have hlt : P % l.length < o.length := by rw [hol]; exact Nat.mod_lt _ (by omega)
        have hlt2 : P % l.length < l.length := by rw [hol] at hlt; exact hlt
        simp only [Int.toNat_natCast]
        repeat' (first
    | (refine H_cons ?_; simp [h2, h3, h3b, hk2, hpm, hpm2, hlt2, hol, hx])
    | (refine HD2_val rfl ?_; simp [h2, h3, h3b, hk2, hpm, hpm2, hlt2, hol, hx])
    | (refine HD_cons ?_; simp [h2, h3, h3b, hk2, hpm, hpm2, hlt2, hol, hx])
    | (refine HD2_chg rfl ?_; simp [h2, h3, h3b, hk2, hpm, hpm2, hlt2, hol, hx])
    | (refine H_nil ?_; simp [h2, h3, h3b, hk2, hpm, hpm2, hlt2, hol, hx])
    | (refine ⟨by omega, ?_⟩)
    | (refine V_sseq ?_; simp [h2, h3, h3b, hk2, hpm, hpm2, hlt2, hol, hx])
    | (refine V_scond ?_; simp [h2, h3, h3b, hk2, hpm, hpm2, hlt2, hol, hx])
    | (refine HD2_nil (hC _ (by kernel_rfl)) (hk _ ?_); clear hC hk C k; simp only [RK_seq, RK_seq_ret, RK_seq_exit, RK_blk, RK_blk_ret, RK_blk_exit, RK_loop, RK_loop_ret, RK_loop_exit, RK_done])
    | (refine HD_nil ?_)
    | (refine hk _ ?_; clear hk k; simp only [RK_seq, RK_seq_ret, RK_seq_exit, RK_blk, RK_blk_ret, RK_blk_exit, RK_loop, RK_loop_ret, RK_loop_exit, RK_done])
    | (refine V_drawV rfl (by kernel_rfl) (by kernel_rfl) fun k hk => ?_; simp [h2, h3, h3b, hk2, hpm, hpm2, hlt2, hol, hx])
    | (refine V_drawN rfl (by kernel_rfl) (by kernel_rfl) (by simp [hn]) fun C k hC hk => ?_; simp [h2, h3, h3b, hk2, hpm, hpm2, hlt2, hol, hx])
    | (refine HD3_val rfl ?_; simp [h2, h3, h3b, hk2, hpm, hpm2, hlt2, hol, hx])
    | (refine HD3_put ?_; simp [h2, h3, h3b, hk2, hpm, hpm2, hlt2, hol, hx])
    | (refine HD3_chg rfl rfl ?_; simp [h2, h3, h3b, hk2, hpm, hpm2, hlt2, hol, hx])
    | (refine HD3_nil (hC _ _ (by kernel_rfl) (by kernel_rfl)) (hk _ ?_); clear hC hk C k; simp only [RK_seq, RK_seq_ret, RK_seq_exit, RK_blk, RK_blk_ret, RK_blk_exit, RK_loop, RK_loop_ret, RK_loop_exit, RK_done]; simp [St.ins, insL, putE, getK_setOb, getK_cons])
    | (refine V_drawE rfl (by kernel_rfl) (by kernel_rfl) (by simp [hn]) fun C k hC hk => ?_; simp [h2, h3, h3b, hk2, hpm, hpm2, hlt2, hol, hx])
    | (refine HD_guardU rfl (by simp [h2, h3, h3b, hk2, hpm, hpm2, hlt2, hol, hx]) ?_; simp [h2, h3, h3b, hk2, hpm, hpm2, hlt2, hol, hx])
    | (refine HD_guard rfl (by simp [h2, h3, h3b, hk2, hpm, hpm2, hlt2, hol, hx]) (fun hc => ?_) (fun hc => ?_) <;> (try simp [h2, h3, h3b, hk2, hpm, hpm2, hlt2, hol, hx] at hc) <;> (try (exfalso; omega)) <;> (try simp [h2, h3, h3b, hk2, hpm, hpm2, hlt2, hol, hx]))
    | (refine HD2_guardU rfl (by simp [h2, h3, h3b, hk2, hpm, hpm2, hlt2, hol, hx]) ?_; simp [h2, h3, h3b, hk2, hpm, hpm2, hlt2, hol, hx])
    | (refine HD2_guard rfl (by simp [h2, h3, h3b, hk2, hpm, hpm2, hlt2, hol, hx]) (fun hc => ?_) (fun hc => ?_) <;> (try simp [h2, h3, h3b, hk2, hpm, hpm2, hlt2, hol, hx] at hc) <;> (try (exfalso; omega)) <;> (try simp [h2, h3, h3b, hk2, hpm, hpm2, hlt2, hol, hx]))
    | (refine V_sblock ?_; simp [h2, h3, h3b, hk2, hpm, hpm2, hlt2, hol, hx])
    | (refine V_sregion ?_; simp [h2, h3, h3b, hk2, hpm, hpm2, hlt2, hol, hx])
    | (refine V_ret ?_; simp only [RK_seq, RK_seq_ret, RK_seq_exit, RK_blk, RK_blk_ret, RK_blk_exit, RK_loop, RK_loop_ret, RK_loop_exit, RK_done])
    | (refine V_skip ?_; simp only [RK_seq, RK_seq_ret, RK_seq_exit, RK_blk, RK_blk_ret, RK_blk_exit, RK_loop, RK_loop_ret, RK_loop_exit, RK_done])
    | (refine V_exit ?_; simp [RK_seq, RK_seq_ret, RK_seq_exit, RK_blk, RK_blk_ret, RK_blk_exit, RK_loop, RK_loop_ret, RK_loop_exit, RK_done])
    | (refine ⟨?_, by omega⟩)
    | (refine ⟨fun hc => ?_, fun hc => ?_⟩ <;> (try (exfalso; omega)))
    | (intro hc <;> (try (exfalso; omega)))
    | (refine CallV.fun_ (hof) (by first | rfl | fail) (by first | assumption | (simp; done) | fail) (by first | (simp [h2, h3, h3b, hk2, hpm, hpm2, hlt2, hol, hx]; done) | (simp [h2, h3, h3b, hk2, hpm, hpm2, hlt2, hol, hx]; rfl) | fail) (by first | (simp; done) | fail) ?_ <;> (try simp [h2, h3, h3b, hk2, hpm, hpm2, hlt2, hol, hx]))
    | (refine CallP.fun_ (hof) (by first | rfl | fail) (by first | assumption | (simp; done) | fail) (by first | (simp [h2, h3, h3b, hk2, hpm, hpm2, hlt2, hol, hx]; done) | (simp [h2, h3, h3b, hk2, hpm, hpm2, hlt2, hol, hx]; rfl) | fail) (by first | (simp; done) | fail) (fun d hd => ?_); subst hd; (try simp [h2, h3, h3b, hk2, hpm, hpm2, hlt2, hol, hx])))
        all_goals
          (refine EndOK.val (.inr rfl) ?_; simp [resD, oneOrTup, pureD, Try.results10])
          try simp [hlt, hol, hlt2]
    · have hlt : i < had.length := (List.getElem?_eq_some_iff.1 hx).1
      by_cases ha : a < 0
      · have ho : nextS l had kind seed period = (0, false) := by
          have hm := minS_le (List.mem_of_getElem? hx)
          have : ¬ 0 ≤ minS had := by omega
          simp [nextS, okN, this]
        rw [ho]
        repeat' (first
    | (refine H_cons ?_; simp [hx, ha])
    | (refine HD2_val rfl ?_; simp [hx, ha])
    | (refine HD_cons ?_; simp [hx, ha])
    | (refine HD2_chg rfl ?_; simp [hx, ha])
    | (refine H_nil ?_; simp [hx, ha])
    | (refine ⟨by omega, ?_⟩)
    | (refine V_sseq ?_; simp [hx, ha])
    | (refine V_scond ?_; simp [hx, ha])
    | (refine HD2_nil (hC _ (by kernel_rfl)) (hk _ ?_); clear hC hk C k; simp only [RK_seq, RK_seq_ret, RK_seq_exit, RK_blk, RK_blk_ret, RK_blk_exit, RK_loop, RK_loop_ret, RK_loop_exit, RK_done])
    | (refine HD_nil ?_)
    | (refine hk _ ?_; clear hk k; simp only [RK_seq, RK_seq_ret, RK_seq_exit, RK_blk, RK_blk_ret, RK_blk_exit, RK_loop, RK_loop_ret, RK_loop_exit, RK_done])
    | (refine V_drawV rfl (by kernel_rfl) (by kernel_rfl) fun k hk => ?_; simp [hx, ha])
    | (refine V_drawN rfl (by kernel_rfl) (by kernel_rfl) (by simp [hn]) fun C k hC hk => ?_; simp [hx, ha])
    | (refine HD3_val rfl ?_; simp [hx, ha])
    | (refine HD3_put ?_; simp [hx, ha])
    | (refine HD3_chg rfl rfl ?_; simp [hx, ha])
    | (refine HD3_nil (hC _ _ (by kernel_rfl) (by kernel_rfl)) (hk _ ?_); clear hC hk C k; simp only [RK_seq, RK_seq_ret, RK_seq_exit, RK_blk, RK_blk_ret, RK_blk_exit, RK_loop, RK_loop_ret, RK_loop_exit, RK_done]; simp [St.ins, insL, putE, getK_setOb, getK_cons])
    | (refine V_drawE rfl (by kernel_rfl) (by kernel_rfl) (by simp [hn]) fun C k hC hk => ?_; simp [hx, ha])
    | (refine HD_guardU rfl (by simp [hx, ha]) ?_; simp [hx, ha])
    | (refine HD_guard rfl (by simp [hx, ha]) (fun hc => ?_) (fun hc => ?_) <;> (try simp [hx, ha] at hc) <;> (try (exfalso; omega)) <;> (try simp [hx, ha]))
    | (refine HD2_guardU rfl (by simp [hx, ha]) ?_; simp [hx, ha])
    | (refine HD2_guard rfl (by simp [hx, ha]) (fun hc => ?_) (fun hc => ?_) <;> (try simp [hx, ha] at hc) <;> (try (exfalso; omega)) <;> (try simp [hx, ha]))
    | (refine V_sblock ?_; simp [hx, ha])
    | (refine V_sregion ?_; simp [hx, ha])
    | (refine V_ret ?_; simp only [RK_seq, RK_seq_ret, RK_seq_exit, RK_blk, RK_blk_ret, RK_blk_exit, RK_loop, RK_loop_ret, RK_loop_exit, RK_done])
    | (refine V_skip ?_; simp only [RK_seq, RK_seq_ret, RK_seq_exit, RK_blk, RK_blk_ret, RK_blk_exit, RK_loop, RK_loop_ret, RK_loop_exit, RK_done])
    | (refine V_exit ?_; simp [RK_seq, RK_seq_ret, RK_seq_exit, RK_blk, RK_blk_ret, RK_blk_exit, RK_loop, RK_loop_ret, RK_loop_exit, RK_done])
    | (refine ⟨?_, by omega⟩)
    | (refine ⟨fun hc => ?_, fun hc => ?_⟩ <;> (try (exfalso; omega)))
    | (intro hc <;> (try (exfalso; omega))))
        all_goals
          (refine EndOK.val (.inr rfl) ?_; simp [resD, oneOrTup, pureD, Try.results10])
      · have hne1 : had.take (max i 1) ≠ [] := fun h => by
          have h1 : (had.take (max i 1)).length = max i 1 := by rw [List.length_take]; omega
          rw [h] at h1; simp at h1; omega
        have hgl := lst_get hne1
        have hlt1 := lst_lt hne1
        rw [List.length_take] at hlt1
        have hlt2 : lst (had.take (max i 1)) < had.length := by omega
        have hg2 : had[lst (had.take (max i 1))]? = some (minS (had.take (max i 1))) := by
          rw [← hgl, List.getElem?_take, if_pos (by omega)]
        have hsn : lst (had.take (max (i + 1) 1)) = if a < minS (had.take (max i 1)) then i else lst (had.take (max i 1)) := by
          rcases Nat.eq_zero_or_pos i with rfl | hi0
          · have : minS (had.take (max 0 1)) = a := by
              rw [ha0] at hx; cases hx
              cases had with
              | nil => exact absurd rfl hne
              | cons b l => simp at ha0; simp [minS, ha0]
            rw [if_neg (by omega)]
            rfl
          · rw [show max (i + 1) 1 = i + 1 by omega, show max i 1 = i by omega]
            exact lst_take_snoc hi0 hx
        have hpos2 := all_snoc (p := fun y => 0 ≤ y) hx hpos (by omega)
        have hgE : ∀ h : lst (had.take (max i 1)) < had.length, had[lst (had.take (max i 1))]'h = minS (had.take (max i 1)) := fun h => (List.getElem?_eq_some_iff.1 hg2).2
        by_cases hless : a < minS (had.take (max i 1))
        · rw [if_pos hless] at hsn
          repeat' (first
    | (refine H_cons ?_; simp [hx, ha, hgE, hlt2, hless])
    | (refine HD2_val rfl ?_; simp [hx, ha, hgE, hlt2, hless])
    | (refine HD_cons ?_; simp [hx, ha, hgE, hlt2, hless])
    | (refine HD2_chg rfl ?_; simp [hx, ha, hgE, hlt2, hless])
    | (refine H_nil ?_; simp [hx, ha, hgE, hlt2, hless])
    | (refine ⟨by omega, ?_⟩)
    | (refine V_sseq ?_; simp [hx, ha, hgE, hlt2, hless])
    | (refine V_scond ?_; simp [hx, ha, hgE, hlt2, hless])
    | (refine HD2_nil (hC _ (by kernel_rfl)) (hk _ ?_); clear hC hk C k; simp only [RK_seq, RK_seq_ret, RK_seq_exit, RK_blk, RK_blk_ret, RK_blk_exit, RK_loop, RK_loop_ret, RK_loop_exit, RK_done])
    | (refine HD_nil ?_)
    | (refine hk _ ?_; clear hk k; simp only [RK_seq, RK_seq_ret, RK_seq_exit, RK_blk, RK_blk_ret, RK_blk_exit, RK_loop, RK_loop_ret, RK_loop_exit, RK_done])
    | (refine V_drawV rfl (by kernel_rfl) (by kernel_rfl) fun k hk => ?_; simp [hx, ha, hgE, hlt2, hless])
    | (refine V_drawN rfl (by kernel_rfl) (by kernel_rfl) (by simp [hn]) fun C k hC hk => ?_; simp [hx, ha, hgE, hlt2, hless])
    | (refine HD3_val rfl ?_; simp [hx, ha, hgE, hlt2, hless])
    | (refine HD3_put ?_; simp [hx, ha, hgE, hlt2, hless])
    | (refine HD3_chg rfl rfl ?_; simp [hx, ha, hgE, hlt2, hless])
    | (refine HD3_nil (hC _ _ (by kernel_rfl) (by kernel_rfl)) (hk _ ?_); clear hC hk C k; simp only [RK_seq, RK_seq_ret, RK_seq_exit, RK_blk, RK_blk_ret, RK_blk_exit, RK_loop, RK_loop_ret, RK_loop_exit, RK_done]; simp [St.ins, insL, putE, getK_setOb, getK_cons])
    | (refine V_drawE rfl (by kernel_rfl) (by kernel_rfl) (by simp [hn]) fun C k hC hk => ?_; simp [hx, ha, hgE, hlt2, hless])
    | (refine HD_guardU rfl (by simp [hx, ha, hgE, hlt2, hless]) ?_; simp [hx, ha, hgE, hlt2, hless])
    | (refine HD_guard rfl (by simp [hx, ha, hgE, hlt2, hless]) (fun hc => ?_) (fun hc => ?_) <;> (try simp [hx, ha, hgE, hlt2, hless] at hc) <;> (try (exfalso; omega)) <;> (try simp [hx, ha, hgE, hlt2, hless]))
    | (refine HD2_guardU rfl (by simp [hx, ha, hgE, hlt2, hless]) ?_; simp [hx, ha, hgE, hlt2, hless])
    | (refine HD2_guard rfl (by simp [hx, ha, hgE, hlt2, hless]) (fun hc => ?_) (fun hc => ?_) <;> (try simp [hx, ha, hgE, hlt2, hless] at hc) <;> (try (exfalso; omega)) <;> (try simp [hx, ha, hgE, hlt2, hless]))
    | (refine V_sblock ?_; simp [hx, ha, hgE, hlt2, hless])
    | (refine V_sregion ?_; simp [hx, ha, hgE, hlt2, hless])
    | (refine V_ret ?_; simp only [RK_seq, RK_seq_ret, RK_seq_exit, RK_blk, RK_blk_ret, RK_blk_exit, RK_loop, RK_loop_ret, RK_loop_exit, RK_done])
    | (refine V_skip ?_; simp only [RK_seq, RK_seq_ret, RK_seq_exit, RK_blk, RK_blk_ret, RK_blk_exit, RK_loop, RK_loop_ret, RK_loop_exit, RK_done])
    | (refine V_exit ?_; simp [RK_seq, RK_seq_ret, RK_seq_exit, RK_blk, RK_blk_ret, RK_blk_exit, RK_loop, RK_loop_ret, RK_loop_exit, RK_done])
    | (refine ⟨?_, by omega⟩)
    | (refine ⟨fun hc => ?_, fun hc => ?_⟩ <;> (try (exfalso; omega)))
    | (intro hc <;> (try (exfalso; omega))))
          refine LoopW.next ⟨i + 1, by omega, hpos2⟩ (by simp; omega) ?_
          exact (Wk.cut rfl (by simp [hn]) (by simp [wkO, St.lp, getK_cons, getK, Ob.under, D.under, under_rowsD, under_entD, hsn]) (by simp [wkU, St.lp, keepE, getK_cons, getK, D.under, hsn]) (by simp [wkE, St.lp, keepE, getK_cons, getK, hsn] <;> (try (intros; simp_all; done)) <;> (try (intros; omega)) <;> (try grind)))
        · rw [if_neg hless] at hsn
          repeat' (first
    | (refine H_cons ?_; simp [hx, ha, hgE, hlt2, hless])
    | (refine HD2_val rfl ?_; simp [hx, ha, hgE, hlt2, hless])
    | (refine HD_cons ?_; simp [hx, ha, hgE, hlt2, hless])
    | (refine HD2_chg rfl ?_; simp [hx, ha, hgE, hlt2, hless])
    | (refine H_nil ?_; simp [hx, ha, hgE, hlt2, hless])
    | (refine ⟨by omega, ?_⟩)
    | (refine V_sseq ?_; simp [hx, ha, hgE, hlt2, hless])
    | (refine V_scond ?_; simp [hx, ha, hgE, hlt2, hless])
    | (refine HD2_nil (hC _ (by kernel_rfl)) (hk _ ?_); clear hC hk C k; simp only [RK_seq, RK_seq_ret, RK_seq_exit, RK_blk, RK_blk_ret, RK_blk_exit, RK_loop, RK_loop_ret, RK_loop_exit, RK_done])
    | (refine HD_nil ?_)
    | (refine hk _ ?_; clear hk k; simp only [RK_seq, RK_seq_ret, RK_seq_exit, RK_blk, RK_blk_ret, RK_blk_exit, RK_loop, RK_loop_ret, RK_loop_exit, RK_done])
    | (refine V_drawV rfl (by kernel_rfl) (by kernel_rfl) fun k hk => ?_; simp [hx, ha, hgE, hlt2, hless])
    | (refine V_drawN rfl (by kernel_rfl) (by kernel_rfl) (by simp [hn]) fun C k hC hk => ?_; simp [hx, ha, hgE, hlt2, hless])
    | (refine HD3_val rfl ?_; simp [hx, ha, hgE, hlt2, hless])
    | (refine HD3_put ?_; simp [hx, ha, hgE, hlt2, hless])
    | (refine HD3_chg rfl rfl ?_; simp [hx, ha, hgE, hlt2, hless])
    | (refine HD3_nil (hC _ _ (by kernel_rfl) (by kernel_rfl)) (hk _ ?_); clear hC hk C k; simp only [RK_seq, RK_seq_ret, RK_seq_exit, RK_blk, RK_blk_ret, RK_blk_exit, RK_loop, RK_loop_ret, RK_loop_exit, RK_done]; simp [St.ins, insL, putE, getK_setOb, getK_cons])
    | (refine V_drawE rfl (by kernel_rfl) (by kernel_rfl) (by simp [hn]) fun C k hC hk => ?_; simp [hx, ha, hgE, hlt2, hless])
    | (refine HD_guardU rfl (by simp [hx, ha, hgE, hlt2, hless]) ?_; simp [hx, ha, hgE, hlt2, hless])
    | (refine HD_guard rfl (by simp [hx, ha, hgE, hlt2, hless]) (fun hc => ?_) (fun hc => ?_) <;> (try simp [hx, ha, hgE, hlt2, hless] at hc) <;> (try (exfalso; omega)) <;> (try simp [hx, ha, hgE, hlt2, hless]))
    | (refine HD2_guardU rfl (by simp [hx, ha, hgE, hlt2, hless]) ?_; simp [hx, ha, hgE, hlt2, hless])
    | (refine HD2_guard rfl (by simp [hx, ha, hgE, hlt2, hless]) (fun hc => ?_) (fun hc => ?_) <;> (try simp [hx, ha, hgE, hlt2, hless] at hc) <;> (try (exfalso; omega)) <;> (try simp [hx, ha, hgE, hlt2, hless]))
    | (refine V_sblock ?_; simp [hx, ha, hgE, hlt2, hless])
    | (refine V_sregion ?_; simp [hx, ha, hgE, hlt2, hless])
    | (refine V_ret ?_; simp only [RK_seq, RK_seq_ret, RK_seq_exit, RK_blk, RK_blk_ret, RK_blk_exit, RK_loop, RK_loop_ret, RK_loop_exit, RK_done])
    | (refine V_skip ?_; simp only [RK_seq, RK_seq_ret, RK_seq_exit, RK_blk, RK_blk_ret, RK_blk_exit, RK_loop, RK_loop_ret, RK_loop_exit, RK_done])
    | (refine V_exit ?_; simp [RK_seq, RK_seq_ret, RK_seq_exit, RK_blk, RK_blk_ret, RK_blk_exit, RK_loop, RK_loop_ret, RK_loop_exit, RK_done])
    | (refine ⟨?_, by omega⟩)
    | (refine ⟨fun hc => ?_, fun hc => ?_⟩ <;> (try (exfalso; omega)))
    | (intro hc <;> (try (exfalso; omega))))
          refine LoopW.next ⟨i + 1, by omega, hpos2⟩ (by simp; omega) ?_
          exact (Wk.cut rfl (by simp [hn]) (by simp [wkO, St.lp, getK_cons, getK, Ob.under, D.under, under_rowsD, under_entD, hsn]) (by simp [wkU, St.lp, keepE, getK_cons, getK, D.under, hsn]) (by simp [wkE, St.lp, keepE, getK_cons, getK, hsn] <;> (try (intros; simp_all; done)) <;> (try (intros; omega)) <;> (try grind)))
  · have ho : nextS l had kind seed period = (0, false) := by
      have : okN l had kind period = false := by
        rcases (show okN l had kind period = false ∨ okN l had kind period = true by cases okN l had kind period <;> simp) with h | h
        · exact h
        · obtain ⟨_, h0, h2, h3, h5, h4, hk0, hk3⟩ := okN_true h
          exact absurd ⟨h0, h2, h3, hk0, hk3, h5⟩ hb
      simp [nextS, this]
    rw [ho]
    by_cases h0 : rightS l = true
    · rw [h0] at hrf
      by_cases h2 : l = []
      · subst h2
        (refine Fun.of_body Try.func10 rfl (by simp) fun Γ hn => ?_); simp only [entry, List.zipIdx_cons, List.zipIdx_nil, List.map_cons, List.map_nil, Nat.zero_add, Try.ntmps10]
        repeat' (first
    | (refine H_cons ?_; simp)
    | (refine HD2_val rfl ?_; simp)
    | (refine HD_cons ?_; simp)
    | (refine HD2_chg rfl ?_; simp)
    | (refine H_nil ?_; simp)
    | (refine ⟨by omega, ?_⟩)
    | (refine V_sseq ?_; simp)
    | (refine V_scond ?_; simp)
    | (refine HD2_nil (hC _ (by kernel_rfl)) (hk _ ?_); clear hC hk C k; simp only [RK_seq, RK_seq_ret, RK_seq_exit, RK_blk, RK_blk_ret, RK_blk_exit, RK_loop, RK_loop_ret, RK_loop_exit, RK_done])
    | (refine HD_nil ?_)
    | (refine hk _ ?_; clear hk k; simp only [RK_seq, RK_seq_ret, RK_seq_exit, RK_blk, RK_blk_ret, RK_blk_exit, RK_loop, RK_loop_ret, RK_loop_exit, RK_done])
    | (refine V_drawV rfl (by kernel_rfl) (by kernel_rfl) fun k hk => ?_; simp)
    | (refine V_drawN rfl (by kernel_rfl) (by kernel_rfl) (by simp [hn]) fun C k hC hk => ?_; simp)
    | (refine HD3_val rfl ?_; simp)
    | (refine HD3_put ?_; simp)
    | (refine HD3_chg rfl rfl ?_; simp)
    | (refine HD3_nil (hC _ _ (by kernel_rfl) (by kernel_rfl)) (hk _ ?_); clear hC hk C k; simp only [RK_seq, RK_seq_ret, RK_seq_exit, RK_blk, RK_blk_ret, RK_blk_exit, RK_loop, RK_loop_ret, RK_loop_exit, RK_done]; simp [St.ins, insL, putE, getK_setOb, getK_cons])
    | (refine V_drawE rfl (by kernel_rfl) (by kernel_rfl) (by simp [hn]) fun C k hC hk => ?_; simp)
    | (refine HD_guardU rfl (by simp) ?_; simp)
    | (refine HD_guard rfl (by simp) (fun hc => ?_) (fun hc => ?_) <;> (try simp at hc) <;> (try (exfalso; omega)) <;> (try simp))
    | (refine HD2_guardU rfl (by simp) ?_; simp)
    | (refine HD2_guard rfl (by simp) (fun hc => ?_) (fun hc => ?_) <;> (try simp at hc) <;> (try (exfalso; omega)) <;> (try simp))
    | (refine V_sblock ?_; simp)
    | (refine V_sregion ?_; simp)
    | (refine V_ret ?_; simp only [RK_seq, RK_seq_ret, RK_seq_exit, RK_blk, RK_blk_ret, RK_blk_exit, RK_loop, RK_loop_ret, RK_loop_exit, RK_done])
    | (refine V_skip ?_; simp only [RK_seq, RK_seq_ret, RK_seq_exit, RK_blk, RK_blk_ret, RK_blk_exit, RK_loop, RK_loop_ret, RK_loop_exit, RK_done])
    | (refine V_exit ?_; simp [RK_seq, RK_seq_ret, RK_seq_exit, RK_blk, RK_blk_ret, RK_blk_exit, RK_loop, RK_loop_ret, RK_loop_exit, RK_done])
    | (refine ⟨?_, by omega⟩)
    | (refine ⟨fun hc => ?_, fun hc => ?_⟩ <;> (try (exfalso; omega)))
    | (intro hc <;> (try (exfalso; omega)))
    | (refine CallV.fun_ (hrf) (by first | rfl | fail) (by first | assumption | (simp; done) | fail) (by first | (simp; done) | (simp; rfl) | fail) (by first | (simp; done) | fail) ?_ <;> (try simp))
    | (refine CallP.fun_ (hrf) (by first | rfl | fail) (by first | assumption | (simp; done) | fail) (by first | (simp; done) | (simp; rfl) | fail) (by first | (simp; done) | fail) (fun d hd => ?_); subst hd; (try simp)))
        all_goals
          (refine EndOK.val (.inr rfl) ?_; simp [resD, oneOrTup, pureD, Try.results10])
      have h2b : ¬ l.length = 0 := fun h => h2 (List.eq_nil_of_length_eq_zero h)
      by_cases h3 : had.length = l.length
      · have h3b : (had.length : Int) = l.length := by omega
        have hne : had ≠ [] := fun h => by subst h; exact h2b h3.symm
        have hbk : ¬ (0 ≤ kind ∧ kind < 3 ∧ 0 ≤ period) := fun h => hb ⟨h0, h2, h3, h⟩
        by_cases hk0 : kind < 0
        · (refine Fun.of_body Try.func10 rfl (by simp) fun Γ hn => ?_); simp only [entry, List.zipIdx_cons, List.zipIdx_nil, List.map_cons, List.map_nil, Nat.zero_add, Try.ntmps10]
          repeat' (first
    | (refine H_cons ?_; simp [h2, h3, h3b, hk0])
    | (refine HD2_val rfl ?_; simp [h2, h3, h3b, hk0])
    | (refine HD_cons ?_; simp [h2, h3, h3b, hk0])
    | (refine HD2_chg rfl ?_; simp [h2, h3, h3b, hk0])
    | (refine H_nil ?_; simp [h2, h3, h3b, hk0])
    | (refine ⟨by omega, ?_⟩)
    | (refine V_sseq ?_; simp [h2, h3, h3b, hk0])
    | (refine V_scond ?_; simp [h2, h3, h3b, hk0])
    | (refine HD2_nil (hC _ (by kernel_rfl)) (hk _ ?_); clear hC hk C k; simp only [RK_seq, RK_seq_ret, RK_seq_exit, RK_blk, RK_blk_ret, RK_blk_exit, RK_loop, RK_loop_ret, RK_loop_exit, RK_done])
    | (refine HD_nil ?_)
    | (refine hk _ ?_; clear hk k; simp only [RK_seq, RK_seq_ret, RK_seq_exit, RK_blk, RK_blk_ret, RK_blk_exit, RK_loop, RK_loop_ret, RK_loop_exit, RK_done])
    | (refine V_drawV rfl (by kernel_rfl) (by kernel_rfl) fun k hk => ?_; simp [h2, h3, h3b, hk0])
    | (refine V_drawN rfl (by kernel_rfl) (by kernel_rfl) (by simp [hn]) fun C k hC hk => ?_; simp [h2, h3, h3b, hk0])
    | (refine HD3_val rfl ?_; simp [h2, h3, h3b, hk0])
    | (refine HD3_put ?_; simp [h2, h3, h3b, hk0])
    | (refine HD3_chg rfl rfl ?_; simp [h2, h3, h3b, hk0])
    | (refine HD3_nil (hC _ _ (by kernel_rfl) (by kernel_rfl)) (hk _ ?_); clear hC hk C k; simp only [RK_seq, RK_seq_ret, RK_seq_exit, RK_blk, RK_blk_ret, RK_blk_exit, RK_loop, RK_loop_ret, RK_loop_exit, RK_done]; simp [St.ins, insL, putE, getK_setOb, getK_cons])
    | (refine V_drawE rfl (by kernel_rfl) (by kernel_rfl) (by simp [hn]) fun C k hC hk => ?_; simp [h2, h3, h3b, hk0])
    | (refine HD_guardU rfl (by simp [h2, h3, h3b, hk0]) ?_; simp [h2, h3, h3b, hk0])
    | (refine HD_guard rfl (by simp [h2, h3, h3b, hk0]) (fun hc => ?_) (fun hc => ?_) <;> (try simp [h2, h3, h3b, hk0] at hc) <;> (try (exfalso; omega)) <;> (try simp [h2, h3, h3b, hk0]))
    | (refine HD2_guardU rfl (by simp [h2, h3, h3b, hk0]) ?_; simp [h2, h3, h3b, hk0])
    | (refine HD2_guard rfl (by simp [h2, h3, h3b, hk0]) (fun hc => ?_) (fun hc => ?_) <;> (try simp [h2, h3, h3b, hk0] at hc) <;> (try (exfalso; omega)) <;> (try simp [h2, h3, h3b, hk0]))
    | (refine V_sblock ?_; simp [h2, h3, h3b, hk0])
    | (refine V_sregion ?_; simp [h2, h3, h3b, hk0])
    | (refine V_ret ?_; simp only [RK_seq, RK_seq_ret, RK_seq_exit, RK_blk, RK_blk_ret, RK_blk_exit, RK_loop, RK_loop_ret, RK_loop_exit, RK_done])
    | (refine V_skip ?_; simp only [RK_seq, RK_seq_ret, RK_seq_exit, RK_blk, RK_blk_ret, RK_blk_exit, RK_loop, RK_loop_ret, RK_loop_exit, RK_done])
    | (refine V_exit ?_; simp [RK_seq, RK_seq_ret, RK_seq_exit, RK_blk, RK_blk_ret, RK_blk_exit, RK_loop, RK_loop_ret, RK_loop_exit, RK_done])
    | (refine ⟨?_, by omega⟩)
    | (refine ⟨fun hc => ?_, fun hc => ?_⟩ <;> (try (exfalso; omega)))
    | (intro hc <;> (try (exfalso; omega)))
    | (refine CallV.fun_ (hrf) (by first | rfl | fail) (by first | assumption | (simp; done) | fail) (by first | (simp [h2, h3, h3b, hk0]; done) | (simp [h2, h3, h3b, hk0]; rfl) | fail) (by first | (simp; done) | fail) ?_ <;> (try simp [h2, h3, h3b, hk0]))
    | (refine CallP.fun_ (hrf) (by first | rfl | fail) (by first | assumption | (simp; done) | fail) (by first | (simp [h2, h3, h3b, hk0]; done) | (simp [h2, h3, h3b, hk0]; rfl) | fail) (by first | (simp; done) | fail) (fun d hd => ?_); subst hd; (try simp [h2, h3, h3b, hk0])))
          all_goals
            (refine EndOK.val (.inr rfl) ?_; simp [resD, oneOrTup, pureD, Try.results10])
        by_cases hk3 : 3 ≤ kind
        · (refine Fun.of_body Try.func10 rfl (by simp) fun Γ hn => ?_); simp only [entry, List.zipIdx_cons, List.zipIdx_nil, List.map_cons, List.map_nil, Nat.zero_add, Try.ntmps10]
          repeat' (first
    | (refine H_cons ?_; simp [h2, h3, h3b, hk0, hk3])
    | (refine HD2_val rfl ?_; simp [h2, h3, h3b, hk0, hk3])
    | (refine HD_cons ?_; simp [h2, h3, h3b, hk0, hk3])
    | (refine HD2_chg rfl ?_; simp [h2, h3, h3b, hk0, hk3])
    | (refine H_nil ?_; simp [h2, h3, h3b, hk0, hk3])
    | (refine ⟨by omega, ?_⟩)
    | (refine V_sseq ?_; simp [h2, h3, h3b, hk0, hk3])
    | (refine V_scond ?_; simp [h2, h3, h3b, hk0, hk3])
    | (refine HD2_nil (hC _ (by kernel_rfl)) (hk _ ?_); clear hC hk C k; simp only [RK_seq, RK_seq_ret, RK_seq_exit, RK_blk, RK_blk_ret, RK_blk_exit, RK_loop, RK_loop_ret, RK_loop_exit, RK_done])
    | (refine HD_nil ?_)
    | (refine hk _ ?_; clear hk k; simp only [RK_seq, RK_seq_ret, RK_seq_exit, RK_blk, RK_blk_ret, RK_blk_exit, RK_loop, RK_loop_ret, RK_loop_exit, RK_done])
    | (refine V_drawV rfl (by kernel_rfl) (by kernel_rfl) fun k hk => ?_; simp [h2, h3, h3b, hk0, hk3])
    | (refine V_drawN rfl (by kernel_rfl) (by kernel_rfl) (by simp [hn]) fun C k hC hk => ?_; simp [h2, h3, h3b, hk0, hk3])
    | (refine HD3_val rfl ?_; simp [h2, h3, h3b, hk0, hk3])
    | (refine HD3_put ?_; simp [h2, h3, h3b, hk0, hk3])
    | (refine HD3_chg rfl rfl ?_; simp [h2, h3, h3b, hk0, hk3])
    | (refine HD3_nil (hC _ _ (by kernel_rfl) (by kernel_rfl)) (hk _ ?_); clear hC hk C k; simp only [RK_seq, RK_seq_ret, RK_seq_exit, RK_blk, RK_blk_ret, RK_blk_exit, RK_loop, RK_loop_ret, RK_loop_exit, RK_done]; simp [St.ins, insL, putE, getK_setOb, getK_cons])
    | (refine V_drawE rfl (by kernel_rfl) (by kernel_rfl) (by simp [hn]) fun C k hC hk => ?_; simp [h2, h3, h3b, hk0, hk3])
    | (refine HD_guardU rfl (by simp [h2, h3, h3b, hk0, hk3]) ?_; simp [h2, h3, h3b, hk0, hk3])
    | (refine HD_guard rfl (by simp [h2, h3, h3b, hk0, hk3]) (fun hc => ?_) (fun hc => ?_) <;> (try simp [h2, h3, h3b, hk0, hk3] at hc) <;> (try (exfalso; omega)) <;> (try simp [h2, h3, h3b, hk0, hk3]))
    | (refine HD2_guardU rfl (by simp [h2, h3, h3b, hk0, hk3]) ?_; simp [h2, h3, h3b, hk0, hk3])
    | (refine HD2_guard rfl (by simp [h2, h3, h3b, hk0, hk3]) (fun hc => ?_) (fun hc => ?_) <;> (try simp [h2, h3, h3b, hk0, hk3] at hc) <;> (try (exfalso; omega)) <;> (try simp [h2, h3, h3b, hk0, hk3]))
    | (refine V_sblock ?_; simp [h2, h3, h3b, hk0, hk3])
    | (refine V_sregion ?_; simp [h2, h3, h3b, hk0, hk3])
    | (refine V_ret ?_; simp only [RK_seq, RK_seq_ret, RK_seq_exit, RK_blk, RK_blk_ret, RK_blk_exit, RK_loop, RK_loop_ret, RK_loop_exit, RK_done])
    | (refine V_skip ?_; simp only [RK_seq, RK_seq_ret, RK_seq_exit, RK_blk, RK_blk_ret, RK_blk_exit, RK_loop, RK_loop_ret, RK_loop_exit, RK_done])
    | (refine V_exit ?_; simp [RK_seq, RK_seq_ret, RK_seq_exit, RK_blk, RK_blk_ret, RK_blk_exit, RK_loop, RK_loop_ret, RK_loop_exit, RK_done])
    | (refine ⟨?_, by omega⟩)
    | (refine ⟨fun hc => ?_, fun hc => ?_⟩ <;> (try (exfalso; omega)))
    | (intro hc <;> (try (exfalso; omega)))
    | (refine CallV.fun_ (hrf) (by first | rfl | fail) (by first | assumption | (simp; done) | fail) (by first | (simp [h2, h3, h3b, hk0, hk3]; done) | (simp [h2, h3, h3b, hk0, hk3]; rfl) | fail) (by first | (simp; done) | fail) ?_ <;> (try simp [h2, h3, h3b, hk0, hk3]))
    | (refine CallP.fun_ (hrf) (by first | rfl | fail) (by first | assumption | (simp; done) | fail) (by first | (simp [h2, h3, h3b, hk0, hk3]; done) | (simp [h2, h3, h3b, hk0, hk3]; rfl) | fail) (by first | (simp; done) | fail) (fun d hd => ?_); subst hd; (try simp [h2, h3, h3b, hk0, hk3])))
          all_goals
            (refine EndOK.val (.inr rfl) ?_; simp [resD, oneOrTup, pureD, Try.results10])
        have h5 : period < 0 := by omega
        (refine Fun.of_body Try.func10 rfl (by simp) fun Γ hn => ?_); simp only [entry, List.zipIdx_cons, List.zipIdx_nil, List.map_cons, List.map_nil, Nat.zero_add, Try.ntmps10]
        repeat' (first
    | (refine H_cons ?_; simp [h2, h3, h3b, hk0, hk3, h5])
    | (refine HD2_val rfl ?_; simp [h2, h3, h3b, hk0, hk3, h5])
    | (refine HD_cons ?_; simp [h2, h3, h3b, hk0, hk3, h5])
    | (refine HD2_chg rfl ?_; simp [h2, h3, h3b, hk0, hk3, h5])
    | (refine H_nil ?_; simp [h2, h3, h3b, hk0, hk3, h5])
    | (refine ⟨by omega, ?_⟩)
    | (refine V_sseq ?_; simp [h2, h3, h3b, hk0, hk3, h5])
    | (refine V_scond ?_; simp [h2, h3, h3b, hk0, hk3, h5])
    | (refine HD2_nil (hC _ (by kernel_rfl)) (hk _ ?_); clear hC hk C k; simp only [RK_seq, RK_seq_ret, RK_seq_exit, RK_blk, RK_blk_ret, RK_blk_exit, RK_loop, RK_loop_ret, RK_loop_exit, RK_done])
    | (refine HD_nil ?_)
    | (refine hk _ ?_; clear hk k; simp only [RK_seq, RK_seq_ret, RK_seq_exit, RK_blk, RK_blk_ret, RK_blk_exit, RK_loop, RK_loop_ret, RK_loop_exit, RK_done])
    | (refine V_drawV rfl (by kernel_rfl) (by kernel_rfl) fun k hk => ?_; simp [h2, h3, h3b, hk0, hk3, h5])
    | (refine V_drawN rfl (by kernel_rfl) (by kernel_rfl) (by simp [hn]) fun C k hC hk => ?_; simp [h2, h3, h3b, hk0, hk3, h5])
    | (refine HD3_val rfl ?_; simp [h2, h3, h3b, hk0, hk3, h5])
    | (refine HD3_put ?_; simp [h2, h3, h3b, hk0, hk3, h5])
    | (refine HD3_chg rfl rfl ?_; simp [h2, h3, h3b, hk0, hk3, h5])
    | (refine HD3_nil (hC _ _ (by kernel_rfl) (by kernel_rfl)) (hk _ ?_); clear hC hk C k; simp only [RK_seq, RK_seq_ret, RK_seq_exit, RK_blk, RK_blk_ret, RK_blk_exit, RK_loop, RK_loop_ret, RK_loop_exit, RK_done]; simp [St.ins, insL, putE, getK_setOb, getK_cons])
    | (refine V_drawE rfl (by kernel_rfl) (by kernel_rfl) (by simp [hn]) fun C k hC hk => ?_; simp [h2, h3, h3b, hk0, hk3, h5])
    | (refine HD_guardU rfl (by simp [h2, h3, h3b, hk0, hk3, h5]) ?_; simp [h2, h3, h3b, hk0, hk3, h5])
    | (refine HD_guard rfl (by simp [h2, h3, h3b, hk0, hk3, h5]) (fun hc => ?_) (fun hc => ?_) <;> (try simp [h2, h3, h3b, hk0, hk3, h5] at hc) <;> (try (exfalso; omega)) <;> (try simp [h2, h3, h3b, hk0, hk3, h5]))
    | (refine HD2_guardU rfl (by simp [h2, h3, h3b, hk0, hk3, h5]) ?_; simp [h2, h3, h3b, hk0, hk3, h5])
    | (refine HD2_guard rfl (by simp [h2, h3, h3b, hk0, hk3, h5]) (fun hc => ?_) (fun hc => ?_) <;> (try simp [h2, h3, h3b, hk0, hk3, h5] at hc) <;> (try (exfalso; omega)) <;> (try simp [h2, h3, h3b, hk0, hk3, h5]))
    | (refine V_sblock ?_; simp [h2, h3, h3b, hk0, hk3, h5])
    | (refine V_sregion ?_; simp [h2, h3, h3b, hk0, hk3, h5])
    | (refine V_ret ?_; simp only [RK_seq, RK_seq_ret, RK_seq_exit, RK_blk, RK_blk_ret, RK_blk_exit, RK_loop, RK_loop_ret, RK_loop_exit, RK_done])
    | (refine V_skip ?_; simp only [RK_seq, RK_seq_ret, RK_seq_exit, RK_blk, RK_blk_ret, RK_blk_exit, RK_loop, RK_loop_ret, RK_loop_exit, RK_done])
    | (refine V_exit ?_; simp [RK_seq, RK_seq_ret, RK_seq_exit, RK_blk, RK_blk_ret, RK_blk_exit, RK_loop, RK_loop_ret, RK_loop_exit, RK_done])
    | (refine ⟨?_, by omega⟩)
    | (refine ⟨fun hc => ?_, fun hc => ?_⟩ <;> (try (exfalso; omega)))
    | (intro hc <;> (try (exfalso; omega)))
    | (refine CallV.fun_ (hrf) (by first | rfl | fail) (by first | assumption | (simp; done) | fail) (by first | (simp [h2, h3, h3b, hk0, hk3, h5]; done) | (simp [h2, h3, h3b, hk0, hk3, h5]; rfl) | fail) (by first | (simp; done) | fail) ?_ <;> (try simp [h2, h3, h3b, hk0, hk3, h5]))
    | (refine CallP.fun_ (hrf) (by first | rfl | fail) (by first | assumption | (simp; done) | fail) (by first | (simp [h2, h3, h3b, hk0, hk3, h5]; done) | (simp [h2, h3, h3b, hk0, hk3, h5]; rfl) | fail) (by first | (simp; done) | fail) (fun d hd => ?_); subst hd; (try simp [h2, h3, h3b, hk0, hk3, h5])))
        all_goals
          (refine EndOK.val (.inr rfl) ?_; simp [resD, oneOrTup, pureD, Try.results10])
      have h3b : ¬ (had.length : Int) = l.length := by omega
      (refine Fun.of_body Try.func10 rfl (by simp) fun Γ hn => ?_); simp only [entry, List.zipIdx_cons, List.zipIdx_nil, List.map_cons, List.map_nil, Nat.zero_add, Try.ntmps10]
      repeat' (first
    | (refine H_cons ?_; simp [h2, h3, h3b])
    | (refine HD2_val rfl ?_; simp [h2, h3, h3b])
    | (refine HD_cons ?_; simp [h2, h3, h3b])
    | (refine HD2_chg rfl ?_; simp [h2, h3, h3b])
    | (refine H_nil ?_; simp [h2, h3, h3b])
    | (refine ⟨by omega, ?_⟩)
    | (refine V_sseq ?_; simp [h2, h3, h3b])
    | (refine V_scond ?_; simp [h2, h3, h3b])
    | (refine HD2_nil (hC _ (by kernel_rfl)) (hk _ ?_); clear hC hk C k; simp only [RK_seq, RK_seq_ret, RK_seq_exit, RK_blk, RK_blk_ret, RK_blk_exit, RK_loop, RK_loop_ret, RK_loop_exit, RK_done])
    | (refine HD_nil ?_)
    | (refine hk _ ?_; clear hk k; simp only [RK_seq, RK_seq_ret, RK_seq_exit, RK_blk, RK_blk_ret, RK_blk_exit, RK_loop, RK_loop_ret, RK_loop_exit, RK_done])
    | (refine V_drawV rfl (by kernel_rfl) (by kernel_rfl) fun k hk => ?_; simp [h2, h3, h3b])
    | (refine V_drawN rfl (by kernel_rfl) (by kernel_rfl) (by simp [hn]) fun C k hC hk => ?_; simp [h2, h3, h3b])
    | (refine HD3_val rfl ?_; simp [h2, h3, h3b])
    | (refine HD3_put ?_; simp [h2, h3, h3b])
    | (refine HD3_chg rfl rfl ?_; simp [h2, h3, h3b])
    | (refine HD3_nil (hC _ _ (by kernel_rfl) (by kernel_rfl)) (hk _ ?_); clear hC hk C k; simp only [RK_seq, RK_seq_ret, RK_seq_exit, RK_blk, RK_blk_ret, RK_blk_exit, RK_loop, RK_loop_ret, RK_loop_exit, RK_done]; simp [St.ins, insL, putE, getK_setOb, getK_cons])
    | (refine V_drawE rfl (by kernel_rfl) (by kernel_rfl) (by simp [hn]) fun C k hC hk => ?_; simp [h2, h3, h3b])
    | (refine HD_guardU rfl (by simp [h2, h3, h3b]) ?_; simp [h2, h3, h3b])
    | (refine HD_guard rfl (by simp [h2, h3, h3b]) (fun hc => ?_) (fun hc => ?_) <;> (try simp [h2, h3, h3b] at hc) <;> (try (exfalso; omega)) <;> (try simp [h2, h3, h3b]))
    | (refine HD2_guardU rfl (by simp [h2, h3, h3b]) ?_; simp [h2, h3, h3b])
    | (refine HD2_guard rfl (by simp [h2, h3, h3b]) (fun hc => ?_) (fun hc => ?_) <;> (try simp [h2, h3, h3b] at hc) <;> (try (exfalso; omega)) <;> (try simp [h2, h3, h3b]))
    | (refine V_sblock ?_; simp [h2, h3, h3b])
    | (refine V_sregion ?_; simp [h2, h3, h3b])
    | (refine V_ret ?_; simp only [RK_seq, RK_seq_ret, RK_seq_exit, RK_blk, RK_blk_ret, RK_blk_exit, RK_loop, RK_loop_ret, RK_loop_exit, RK_done])
    | (refine V_skip ?_; simp only [RK_seq, RK_seq_ret, RK_seq_exit, RK_blk, RK_blk_ret, RK_blk_exit, RK_loop, RK_loop_ret, RK_loop_exit, RK_done])
    | (refine V_exit ?_; simp [RK_seq, RK_seq_ret, RK_seq_exit, RK_blk, RK_blk_ret, RK_blk_exit, RK_loop, RK_loop_ret, RK_loop_exit, RK_done])
    | (refine ⟨?_, by omega⟩)
    | (refine ⟨fun hc => ?_, fun hc => ?_⟩ <;> (try (exfalso; omega)))
    | (intro hc <;> (try (exfalso; omega)))
    | (refine CallV.fun_ (hrf) (by first | rfl | fail) (by first | assumption | (simp; done) | fail) (by first | (simp [h2, h3, h3b]; done) | (simp [h2, h3, h3b]; rfl) | fail) (by first | (simp; done) | fail) ?_ <;> (try simp [h2, h3, h3b]))
    | (refine CallP.fun_ (hrf) (by first | rfl | fail) (by first | assumption | (simp; done) | fail) (by first | (simp [h2, h3, h3b]; done) | (simp [h2, h3, h3b]; rfl) | fail) (by first | (simp; done) | fail) (fun d hd => ?_); subst hd; (try simp [h2, h3, h3b])))
      all_goals
        (refine EndOK.val (.inr rfl) ?_; simp [resD, oneOrTup, pureD, Try.results10])
    · rw [show rightS l = false by simpa using h0] at hrf
      (refine Fun.of_body Try.func10 rfl (by simp) fun Γ hn => ?_); simp only [entry, List.zipIdx_cons, List.zipIdx_nil, List.map_cons, List.map_nil, Nat.zero_add, Try.ntmps10]
      repeat' (first
    | (refine H_cons ?_; simp)
    | (refine HD2_val rfl ?_; simp)
    | (refine HD_cons ?_; simp)
    | (refine HD2_chg rfl ?_; simp)
    | (refine H_nil ?_; simp)
    | (refine ⟨by omega, ?_⟩)
    | (refine V_sseq ?_; simp)
    | (refine V_scond ?_; simp)
    | (refine HD2_nil (hC _ (by kernel_rfl)) (hk _ ?_); clear hC hk C k; simp only [RK_seq, RK_seq_ret, RK_seq_exit, RK_blk, RK_blk_ret, RK_blk_exit, RK_loop, RK_loop_ret, RK_loop_exit, RK_done])
    | (refine HD_nil ?_)
    | (refine hk _ ?_; clear hk k; simp only [RK_seq, RK_seq_ret, RK_seq_exit, RK_blk, RK_blk_ret, RK_blk_exit, RK_loop, RK_loop_ret, RK_loop_exit, RK_done])
    | (refine V_drawV rfl (by kernel_rfl) (by kernel_rfl) fun k hk => ?_; simp)
    | (refine V_drawN rfl (by kernel_rfl) (by kernel_rfl) (by simp [hn]) fun C k hC hk => ?_; simp)
    | (refine HD3_val rfl ?_; simp)
    | (refine HD3_put ?_; simp)
    | (refine HD3_chg rfl rfl ?_; simp)
    | (refine HD3_nil (hC _ _ (by kernel_rfl) (by kernel_rfl)) (hk _ ?_); clear hC hk C k; simp only [RK_seq, RK_seq_ret, RK_seq_exit, RK_blk, RK_blk_ret, RK_blk_exit, RK_loop, RK_loop_ret, RK_loop_exit, RK_done]; simp [St.ins, insL, putE, getK_setOb, getK_cons])
    | (refine V_drawE rfl (by kernel_rfl) (by kernel_rfl) (by simp [hn]) fun C k hC hk => ?_; simp)
    | (refine HD_guardU rfl (by simp) ?_; simp)
    | (refine HD_guard rfl (by simp) (fun hc => ?_) (fun hc => ?_) <;> (try simp at hc) <;> (try (exfalso; omega)) <;> (try simp))
    | (refine HD2_guardU rfl (by simp) ?_; simp)
    | (refine HD2_guard rfl (by simp) (fun hc => ?_) (fun hc => ?_) <;> (try simp at hc) <;> (try (exfalso; omega)) <;> (try simp))
    | (refine V_sblock ?_; simp)
    | (refine V_sregion ?_; simp)
    | (refine V_ret ?_; simp only [RK_seq, RK_seq_ret, RK_seq_exit, RK_blk, RK_blk_ret, RK_blk_exit, RK_loop, RK_loop_ret, RK_loop_exit, RK_done])
    | (refine V_skip ?_; simp only [RK_seq, RK_seq_ret, RK_seq_exit, RK_blk, RK_blk_ret, RK_blk_exit, RK_loop, RK_loop_ret, RK_loop_exit, RK_done])
    | (refine V_exit ?_; simp [RK_seq, RK_seq_ret, RK_seq_exit, RK_blk, RK_blk_ret, RK_blk_exit, RK_loop, RK_loop_ret, RK_loop_exit, RK_done])
    | (refine ⟨?_, by omega⟩)
    | (refine ⟨fun hc => ?_, fun hc => ?_⟩ <;> (try (exfalso; omega)))
    | (intro hc <;> (try (exfalso; omega)))
    | (refine CallV.fun_ (hrf) (by first | rfl | fail) (by first | assumption | (simp; done) | fail) (by first | (simp; done) | (simp; rfl) | fail) (by first | (simp; done) | fail) ?_ <;> (try simp))
    | (refine CallP.fun_ (hrf) (by first | rfl | fail) (by first | assumption | (simp; done) | fail) (by first | (simp; done) | (simp; rfl) | fail) (by first | (simp; done) | fail) (fun d hd => ?_); subst hd; (try simp)))
      all_goals
        (refine EndOK.val (.inr rfl) ?_; simp [resD, oneOrTup, pureD, Try.results10])
end Go.Proofs.Ytmebfcehkfaiaaa
