/- Layer 23: the least one; without twins: the walks. -/
import Derived.Test.YtmebfcehkfaiaaaTf
set_option linter.all false
set_option maxRecDepth 100000
set_option maxHeartbeats 8000000
set_option linter.all false
namespace Go.Proofs.Ytmebfcehkfaiaaa
open Go Go.VL
def minS : List Int → Int
  | [] => 0
  | a :: l => l.foldl min a
theorem minS_snoc {l : List Int} (h : l ≠ []) (a : Int) : minS (l ++ [a]) = min (minS l) a := by
  cases l with
  | nil => exact absurd rfl h
  | cons b l => simp [minS]
def rightS (l : List Int) : Bool := decide (l.length ≤ 60) && decide l.Nodup
theorem nodup_snoc {l : List Int} {i : Nat} {a : Int} (hx : l[i]? = some a) (hb : (l.take i).Nodup) (ha : ∀ y ∈ l.take i, y ≠ a) : (l.take (i + 1)).Nodup := by
  rw [take_snoc hx, List.nodup_append]
  exact ⟨hb, by simp, fun x h1 y h2 => by simp at h2; subst h2; exact ha x h1⟩
theorem not_nodup {l : List Int} {i k : Nat} {a : Int} (hx : l[i]? = some a) (hy : l[k]? = some a) (hk : k < i) : ¬ l.Nodup := fun h => by
  obtain ⟨h1, e1⟩ := List.getElem?_eq_some_iff.1 hx
  obtain ⟨h2, e2⟩ := List.getElem?_eq_some_iff.1 hy
  exact (List.pairwise_iff_getElem.1 h k i h2 h1 hk) (by rw [e1, e2])
attribute [local simp] hcons hstep evPure opd uOf putOK St.put St.at getK binD binI binS binB nilD aggD eqUs cmpK lookD lookR rangeD nextD entryD keyD valU keyU lookK mkV entD_nil lookK_entD updK_entD1 updK_entD2 updK_entD3 allUE allUE_entD makeMapD mapUpdD mapEff updK valM Key.kk shiftI arith unD convD pickD loadD cellsAt fieldAddrD fieldD indexAddrD indexD sliceD cutD lenD minmaxD nilCheckD buildD fillD cellsD isOne ones setAll mkAgg allU allocD boxD storeD St.add buildSliceD appendD rowsOf makeD setOb getK_setOb getK_del getK_cons stripL strip guardTmp entry chunks zcells valD argsV argsW argW argU1 argU0 argsU0 argsU1 calleeOf scalarD scalarU delAll effD St.effS RK_seq RK_seq_ret RK_seq_exit RK_blk RK_blk_ret RK_blk_exit RK_loop RK_loop_ret RK_loop_exit RK_done vs_seq vs_block vs_skip vs_label vs_exit vs_ret vs_cond vs_region vs_loop vs_draw vs_range vs_scope applyW mkD rdIds lentIds callOf calleeOf freeOp D.ids Op.operands Call.operands isEffOp IntKind.bits allU2 allU2_append List.take_of_length_le List.range_succ
attribute [local irreducible] V G H HD HD2 RunK Eff CallP CallV EndOK Fun Ret FinOK LoopI LoopW EndW
theorem min_fun (l : List Int) (hl : l.length ≤ 1000000) (hne : l ≠ []) : Fun Try.prog 20 [.u (ints l)] (· = .u (.int .i64 (minS l))) := by
  have hp : 0 < l.length := List.length_pos_iff.2 hne
  obtain ⟨a0, ha0⟩ : ∃ a, l[0]? = some a := ⟨_, List.getElem?_eq_getElem hp⟩
  have hm1 : minS (l.take 1) = a0 := by
    cases l with
    | nil => exact absurd rfl hne
    | cons b l => simp at ha0; simp [minS, ha0]
  have hnp : ¬ l.length < 1 := by omega
  (refine Fun.of_body Try.func20 rfl (by simp) fun Γ hn => ?_); simp only [entry, List.zipIdx_cons, List.zipIdx_nil, List.map_cons, List.map_nil, Nat.zero_add, Try.ntmps20]
  repeat' (first
    | (refine H_cons ?_; simp [ha0, hnp, hne])
    | (refine HD2_val rfl ?_; simp [ha0, hnp, hne])
    | (refine HD_cons ?_; simp [ha0, hnp, hne])
    | (refine HD2_chg rfl ?_; simp [ha0, hnp, hne])
    | (refine H_nil ?_; simp [ha0, hnp, hne])
    | (refine ⟨by omega, ?_⟩)
    | (refine V_sseq ?_; simp [ha0, hnp, hne])
    | (refine V_scond ?_; simp [ha0, hnp, hne])
    | (refine HD2_nil (hC _ (by kernel_rfl)) (hk _ ?_); clear hC hk C k; simp only [RK_seq, RK_seq_ret, RK_seq_exit, RK_blk, RK_blk_ret, RK_blk_exit, RK_loop, RK_loop_ret, RK_loop_exit, RK_done])
    | (refine HD_nil ?_)
    | (refine hk _ ?_; clear hk k; simp only [RK_seq, RK_seq_ret, RK_seq_exit, RK_blk, RK_blk_ret, RK_blk_exit, RK_loop, RK_loop_ret, RK_loop_exit, RK_done])
    | (refine V_drawV rfl (by kernel_rfl) (by kernel_rfl) fun k hk => ?_; simp [ha0, hnp, hne])
    | (refine V_drawN rfl (by kernel_rfl) (by kernel_rfl) (by simp [hn]) fun C k hC hk => ?_; simp [ha0, hnp, hne])
    | (refine HD3_val rfl ?_; simp [ha0, hnp, hne])
    | (refine HD3_put ?_; simp [ha0, hnp, hne])
    | (refine HD3_chg rfl rfl ?_; simp [ha0, hnp, hne])
    | (refine HD3_nil (hC _ _ (by kernel_rfl) (by kernel_rfl)) (hk _ ?_); clear hC hk C k; simp only [RK_seq, RK_seq_ret, RK_seq_exit, RK_blk, RK_blk_ret, RK_blk_exit, RK_loop, RK_loop_ret, RK_loop_exit, RK_done]; simp [St.ins, insL, putE, getK_setOb, getK_cons])
    | (refine V_drawE rfl (by kernel_rfl) (by kernel_rfl) (by simp [hn]) fun C k hC hk => ?_; simp [ha0, hnp, hne])
    | (refine HD_guardU rfl (by simp [ha0, hnp, hne]) ?_; simp [ha0, hnp, hne])
    | (refine HD_guard rfl (by simp [ha0, hnp, hne]) (fun hc => ?_) (fun hc => ?_) <;> (try simp [ha0, hnp, hne] at hc) <;> (try (exfalso; omega)) <;> (try simp [ha0, hnp, hne]))
    | (refine HD2_guardU rfl (by simp [ha0, hnp, hne]) ?_; simp [ha0, hnp, hne])
    | (refine HD2_guard rfl (by simp [ha0, hnp, hne]) (fun hc => ?_) (fun hc => ?_) <;> (try simp [ha0, hnp, hne] at hc) <;> (try (exfalso; omega)) <;> (try simp [ha0, hnp, hne]))
    | (refine V_sblock ?_; simp [ha0, hnp, hne])
    | (refine V_sregion ?_; simp [ha0, hnp, hne])
    | (refine V_ret ?_; simp only [RK_seq, RK_seq_ret, RK_seq_exit, RK_blk, RK_blk_ret, RK_blk_exit, RK_loop, RK_loop_ret, RK_loop_exit, RK_done])
    | (refine V_skip ?_; simp only [RK_seq, RK_seq_ret, RK_seq_exit, RK_blk, RK_blk_ret, RK_blk_exit, RK_loop, RK_loop_ret, RK_loop_exit, RK_done])
    | (refine V_exit ?_; simp [RK_seq, RK_seq_ret, RK_seq_exit, RK_blk, RK_blk_ret, RK_blk_exit, RK_loop, RK_loop_ret, RK_loop_exit, RK_done])
    | (refine ⟨?_, by omega⟩)
    | (refine ⟨fun hc => ?_, fun hc => ?_⟩ <;> (try (exfalso; omega)))
    | (intro hc <;> (try (exfalso; omega))))
  refine V_loopF (α := { i : Nat // 1 ≤ i ∧ i ≤ l.length }) [0] (fun i => [(3, .u (.int .i64 (minS (l.take i.1)))), (4, .u (.int .i64 i.1))]) (fun i => l.length - i.1) ⟨1, by omega, by omega⟩ ?_ ?_
  · exact (Wk.cut rfl (by simp [hn]) (by simp [wkO, St.lp, getK_cons, getK, Ob.under, D.under, under_rowsD, under_entD, hm1]) (by simp [wkU, St.lp, keepE, getK_cons, getK, D.under, hm1]) (by simp [wkE, St.lp, keepE, getK_cons, getK, hm1] <;> (try (intros; simp_all; done)) <;> (try (intros; omega)) <;> (try grind)))
  rintro ⟨i, hi1, hi⟩
  simp [St.lp, St.only, keepE, getK_cons, getK]
  rcases hx : l[i]? with _ | a
  · have hge : l.length ≤ i := by simpa using hx
    obtain rfl : i = l.length := by omega
    repeat' (first
    | (refine H_cons ?_; simp [hx])
    | (refine HD2_val rfl ?_; simp [hx])
    | (refine HD_cons ?_; simp [hx])
    | (refine HD2_chg rfl ?_; simp [hx])
    | (refine H_nil ?_; simp [hx])
    | (refine ⟨by omega, ?_⟩)
    | (refine V_sseq ?_; simp [hx])
    | (refine V_scond ?_; simp [hx])
    | (refine HD2_nil (hC _ (by kernel_rfl)) (hk _ ?_); clear hC hk C k; simp only [RK_seq, RK_seq_ret, RK_seq_exit, RK_blk, RK_blk_ret, RK_blk_exit, RK_loop, RK_loop_ret, RK_loop_exit, RK_done])
    | (refine HD_nil ?_)
    | (refine hk _ ?_; clear hk k; simp only [RK_seq, RK_seq_ret, RK_seq_exit, RK_blk, RK_blk_ret, RK_blk_exit, RK_loop, RK_loop_ret, RK_loop_exit, RK_done])
    | (refine V_drawV rfl (by kernel_rfl) (by kernel_rfl) fun k hk => ?_; simp [hx])
    | (refine V_drawN rfl (by kernel_rfl) (by kernel_rfl) (by simp [hn]) fun C k hC hk => ?_; simp [hx])
    | (refine HD3_val rfl ?_; simp [hx])
    | (refine HD3_put ?_; simp [hx])
    | (refine HD3_chg rfl rfl ?_; simp [hx])
    | (refine HD3_nil (hC _ _ (by kernel_rfl) (by kernel_rfl)) (hk _ ?_); clear hC hk C k; simp only [RK_seq, RK_seq_ret, RK_seq_exit, RK_blk, RK_blk_ret, RK_blk_exit, RK_loop, RK_loop_ret, RK_loop_exit, RK_done]; simp [St.ins, insL, putE, getK_setOb, getK_cons])
    | (refine V_drawE rfl (by kernel_rfl) (by kernel_rfl) (by simp [hn]) fun C k hC hk => ?_; simp [hx])
    | (refine HD_guardU rfl (by simp [hx]) ?_; simp [hx])
    | (refine HD_guard rfl (by simp [hx]) (fun hc => ?_) (fun hc => ?_) <;> (try simp [hx] at hc) <;> (try (exfalso; omega)) <;> (try simp [hx]))
    | (refine HD2_guardU rfl (by simp [hx]) ?_; simp [hx])
    | (refine HD2_guard rfl (by simp [hx]) (fun hc => ?_) (fun hc => ?_) <;> (try simp [hx] at hc) <;> (try (exfalso; omega)) <;> (try simp [hx]))
    | (refine V_sblock ?_; simp [hx])
    | (refine V_sregion ?_; simp [hx])
    | (refine V_ret ?_; simp only [RK_seq, RK_seq_ret, RK_seq_exit, RK_blk, RK_blk_ret, RK_blk_exit, RK_loop, RK_loop_ret, RK_loop_exit, RK_done])
    | (refine V_skip ?_; simp only [RK_seq, RK_seq_ret, RK_seq_exit, RK_blk, RK_blk_ret, RK_blk_exit, RK_loop, RK_loop_ret, RK_loop_exit, RK_done])
    | (refine V_exit ?_; simp [RK_seq, RK_seq_ret, RK_seq_exit, RK_blk, RK_blk_ret, RK_blk_exit, RK_loop, RK_loop_ret, RK_loop_exit, RK_done])
    | (refine ⟨?_, by omega⟩)
    | (refine ⟨fun hc => ?_, fun hc => ?_⟩ <;> (try (exfalso; omega)))
    | (intro hc <;> (try (exfalso; omega))))
    (refine EndOK.val (.inr rfl) ?_; simp [resD, oneOrTup, pureD, Try.results20])
  · have hlt : i < l.length := (List.getElem?_eq_some_iff.1 hx).1
    have hsn : minS (l.take (i + 1)) = min (minS (l.take i)) a := by
      rw [take_snoc hx, minS_snoc]
      intro h
      have h1 : (l.take i).length = i := by rw [List.length_take]; omega
      rw [h] at h1
      simp at h1
      omega
    repeat' (first
    | (refine H_cons ?_; simp [hx])
    | (refine HD2_val rfl ?_; simp [hx])
    | (refine HD_cons ?_; simp [hx])
    | (refine HD2_chg rfl ?_; simp [hx])
    | (refine H_nil ?_; simp [hx])
    | (refine ⟨by omega, ?_⟩)
    | (refine V_sseq ?_; simp [hx])
    | (refine V_scond ?_; simp [hx])
    | (refine HD2_nil (hC _ (by kernel_rfl)) (hk _ ?_); clear hC hk C k; simp only [RK_seq, RK_seq_ret, RK_seq_exit, RK_blk, RK_blk_ret, RK_blk_exit, RK_loop, RK_loop_ret, RK_loop_exit, RK_done])
    | (refine HD_nil ?_)
    | (refine hk _ ?_; clear hk k; simp only [RK_seq, RK_seq_ret, RK_seq_exit, RK_blk, RK_blk_ret, RK_blk_exit, RK_loop, RK_loop_ret, RK_loop_exit, RK_done])
    | (refine V_drawV rfl (by kernel_rfl) (by kernel_rfl) fun k hk => ?_; simp [hx])
    | (refine V_drawN rfl (by kernel_rfl) (by kernel_rfl) (by simp [hn]) fun C k hC hk => ?_; simp [hx])
    | (refine HD3_val rfl ?_; simp [hx])
    | (refine HD3_put ?_; simp [hx])
    | (refine HD3_chg rfl rfl ?_; simp [hx])
    | (refine HD3_nil (hC _ _ (by kernel_rfl) (by kernel_rfl)) (hk _ ?_); clear hC hk C k; simp only [RK_seq, RK_seq_ret, RK_seq_exit, RK_blk, RK_blk_ret, RK_blk_exit, RK_loop, RK_loop_ret, RK_loop_exit, RK_done]; simp [St.ins, insL, putE, getK_setOb, getK_cons])
    | (refine V_drawE rfl (by kernel_rfl) (by kernel_rfl) (by simp [hn]) fun C k hC hk => ?_; simp [hx])
    | (refine HD_guardU rfl (by simp [hx]) ?_; simp [hx])
    | (refine HD_guard rfl (by simp [hx]) (fun hc => ?_) (fun hc => ?_) <;> (try simp [hx] at hc) <;> (try (exfalso; omega)) <;> (try simp [hx]))
    | (refine HD2_guardU rfl (by simp [hx]) ?_; simp [hx])
    | (refine HD2_guard rfl (by simp [hx]) (fun hc => ?_) (fun hc => ?_) <;> (try simp [hx] at hc) <;> (try (exfalso; omega)) <;> (try simp [hx]))
    | (refine V_sblock ?_; simp [hx])
    | (refine V_sregion ?_; simp [hx])
    | (refine V_ret ?_; simp only [RK_seq, RK_seq_ret, RK_seq_exit, RK_blk, RK_blk_ret, RK_blk_exit, RK_loop, RK_loop_ret, RK_loop_exit, RK_done])
    | (refine V_skip ?_; simp only [RK_seq, RK_seq_ret, RK_seq_exit, RK_blk, RK_blk_ret, RK_blk_exit, RK_loop, RK_loop_ret, RK_loop_exit, RK_done])
    | (refine V_exit ?_; simp [RK_seq, RK_seq_ret, RK_seq_exit, RK_blk, RK_blk_ret, RK_blk_exit, RK_loop, RK_loop_ret, RK_loop_exit, RK_done])
    | (refine ⟨?_, by omega⟩)
    | (refine ⟨fun hc => ?_, fun hc => ?_⟩ <;> (try (exfalso; omega)))
    | (intro hc <;> (try (exfalso; omega))))
    refine LoopW.next ⟨i + 1, by omega, by omega⟩ (by simp; omega) ?_
    exact (Wk.cut rfl (by simp [hn]) (by simp [wkO, St.lp, getK_cons, getK, Ob.under, D.under, under_rowsD, under_entD, hsn]) (by simp [wkU, St.lp, keepE, getK_cons, getK, D.under, hsn]) (by simp [wkE, St.lp, keepE, getK_cons, getK, hsn] <;> (try (intros; simp_all; done)) <;> (try (intros; omega)) <;> (try grind)))
theorem right_fun (l : List Int) (hl : l.length ≤ 1000000) : Fun Try.prog 16 [.u (ints l)] (· = .u (.bool (rightS l))) := by
  rcases Nat.lt_or_ge 60 l.length with h60 | h60
  · have hr : rightS l = false := by simp [rightS]; omega
    (refine Fun.of_body Try.func16 rfl (by simp) fun Γ hn => ?_); simp only [entry, List.zipIdx_cons, List.zipIdx_nil, List.map_cons, List.map_nil, Nat.zero_add, Try.ntmps16]
    repeat' (first
    | (refine H_cons ?_; simp)
    | (refine HD2_val rfl ?_; simp)
    | (refine HD_cons ?_; simp)
    | (refine HD2_chg rfl ?_; simp)
    | (refine H_nil ?_; simp)
    | (refine ⟨by omega, ?_⟩)
    | (refine V_sseq ?_; simp)
    | (refine V_scond ?_; simp)
    | (refine HD2_nil (hC _ (by kernel_rfl)) (hk _ ?_); clear hC hk C k; simp only [RK_seq, RK_seq_ret, RK_seq_exit, RK_blk, RK_blk_ret, RK_blk_exit, RK_loop, RK_loop_ret, RK_loop_exit, RK_done])
    | (refine HD_nil ?_)
    | (refine hk _ ?_; clear hk k; simp only [RK_seq, RK_seq_ret, RK_seq_exit, RK_blk, RK_blk_ret, RK_blk_exit, RK_loop, RK_loop_ret, RK_loop_exit, RK_done])
    | (refine V_drawV rfl (by kernel_rfl) (by kernel_rfl) fun k hk => ?_; simp)
    | (refine V_drawN rfl (by kernel_rfl) (by kernel_rfl) (by simp [hn]) fun C k hC hk => ?_; simp)
    | (refine HD3_val rfl ?_; simp)
    | (refine HD3_put ?_; simp)
    | (refine HD3_chg rfl rfl ?_; simp)
    | (refine HD3_nil (hC _ _ (by kernel_rfl) (by kernel_rfl)) (hk _ ?_); clear hC hk C k; simp only [RK_seq, RK_seq_ret, RK_seq_exit, RK_blk, RK_blk_ret, RK_blk_exit, RK_loop, RK_loop_ret, RK_loop_exit, RK_done]; simp [St.ins, insL, putE, getK_setOb, getK_cons])
    | (refine V_drawE rfl (by kernel_rfl) (by kernel_rfl) (by simp [hn]) fun C k hC hk => ?_; simp)
    | (refine HD_guardU rfl (by simp) ?_; simp)
    | (refine HD_guard rfl (by simp) (fun hc => ?_) (fun hc => ?_) <;> (try simp at hc) <;> (try (exfalso; omega)) <;> (try simp))
    | (refine HD2_guardU rfl (by simp) ?_; simp)
    | (refine HD2_guard rfl (by simp) (fun hc => ?_) (fun hc => ?_) <;> (try simp at hc) <;> (try (exfalso; omega)) <;> (try simp))
    | (refine V_sblock ?_; simp)
    | (refine V_sregion ?_; simp)
    | (refine V_ret ?_; simp only [RK_seq, RK_seq_ret, RK_seq_exit, RK_blk, RK_blk_ret, RK_blk_exit, RK_loop, RK_loop_ret, RK_loop_exit, RK_done])
    | (refine V_skip ?_; simp only [RK_seq, RK_seq_ret, RK_seq_exit, RK_blk, RK_blk_ret, RK_blk_exit, RK_loop, RK_loop_ret, RK_loop_exit, RK_done])
    | (refine V_exit ?_; simp [RK_seq, RK_seq_ret, RK_seq_exit, RK_blk, RK_blk_ret, RK_blk_exit, RK_loop, RK_loop_ret, RK_loop_exit, RK_done])
    | (refine ⟨?_, by omega⟩)
    | (refine ⟨fun hc => ?_, fun hc => ?_⟩ <;> (try (exfalso; omega)))
    | (intro hc <;> (try (exfalso; omega))))
    all_goals
      (refine EndOK.val (.inr rfl) ?_; simp [resD, oneOrTup, pureD, Try.results16])
      simp [hr]
  (refine Fun.of_body Try.func16 rfl (by simp) fun Γ hn => ?_); simp only [entry, List.zipIdx_cons, List.zipIdx_nil, List.map_cons, List.map_nil, Nat.zero_add, Try.ntmps16]
  repeat' (first
    | (refine H_cons ?_; simp)
    | (refine HD2_val rfl ?_; simp)
    | (refine HD_cons ?_; simp)
    | (refine HD2_chg rfl ?_; simp)
    | (refine H_nil ?_; simp)
    | (refine ⟨by omega, ?_⟩)
    | (refine V_sseq ?_; simp)
    | (refine V_scond ?_; simp)
    | (refine HD2_nil (hC _ (by kernel_rfl)) (hk _ ?_); clear hC hk C k; simp only [RK_seq, RK_seq_ret, RK_seq_exit, RK_blk, RK_blk_ret, RK_blk_exit, RK_loop, RK_loop_ret, RK_loop_exit, RK_done])
    | (refine HD_nil ?_)
    | (refine hk _ ?_; clear hk k; simp only [RK_seq, RK_seq_ret, RK_seq_exit, RK_blk, RK_blk_ret, RK_blk_exit, RK_loop, RK_loop_ret, RK_loop_exit, RK_done])
    | (refine V_drawV rfl (by kernel_rfl) (by kernel_rfl) fun k hk => ?_; simp)
    | (refine V_drawN rfl (by kernel_rfl) (by kernel_rfl) (by simp [hn]) fun C k hC hk => ?_; simp)
    | (refine HD3_val rfl ?_; simp)
    | (refine HD3_put ?_; simp)
    | (refine HD3_chg rfl rfl ?_; simp)
    | (refine HD3_nil (hC _ _ (by kernel_rfl) (by kernel_rfl)) (hk _ ?_); clear hC hk C k; simp only [RK_seq, RK_seq_ret, RK_seq_exit, RK_blk, RK_blk_ret, RK_blk_exit, RK_loop, RK_loop_ret, RK_loop_exit, RK_done]; simp [St.ins, insL, putE, getK_setOb, getK_cons])
    | (refine V_drawE rfl (by kernel_rfl) (by kernel_rfl) (by simp [hn]) fun C k hC hk => ?_; simp)
    | (refine HD_guardU rfl (by simp) ?_; simp)
    | (refine HD_guard rfl (by simp) (fun hc => ?_) (fun hc => ?_) <;> (try simp at hc) <;> (try (exfalso; omega)) <;> (try simp))
    | (refine HD2_guardU rfl (by simp) ?_; simp)
    | (refine HD2_guard rfl (by simp) (fun hc => ?_) (fun hc => ?_) <;> (try simp at hc) <;> (try (exfalso; omega)) <;> (try simp))
    | (refine V_sblock ?_; simp)
    | (refine V_sregion ?_; simp)
    | (refine V_ret ?_; simp only [RK_seq, RK_seq_ret, RK_seq_exit, RK_blk, RK_blk_ret, RK_blk_exit, RK_loop, RK_loop_ret, RK_loop_exit, RK_done])
    | (refine V_skip ?_; simp only [RK_seq, RK_seq_ret, RK_seq_exit, RK_blk, RK_blk_ret, RK_blk_exit, RK_loop, RK_loop_ret, RK_loop_exit, RK_done])
    | (refine V_exit ?_; simp [RK_seq, RK_seq_ret, RK_seq_exit, RK_blk, RK_blk_ret, RK_blk_exit, RK_loop, RK_loop_ret, RK_loop_exit, RK_done])
    | (refine ⟨?_, by omega⟩)
    | (refine ⟨fun hc => ?_, fun hc => ?_⟩ <;> (try (exfalso; omega)))
    | (intro hc <;> (try (exfalso; omega))))
  refine V_loopF (α := { i : Nat // i ≤ l.length ∧ (l.take i).Nodup }) [0] (fun i => [(3, .u (.int .i64 i.1))]) (fun i => l.length - i.1) ⟨0, by omega, by simp⟩ ?_ ?_
  · exact (Wk.cut rfl (by simp [hn]) (by simp [wkO, St.lp, getK_cons, getK, Ob.under, D.under, under_rowsD, under_entD]) (by simp [wkU, St.lp, keepE, getK_cons, getK, D.under]) (by simp [wkE, St.lp, keepE, getK_cons, getK] <;> (try (intros; simp_all; done)) <;> (try (intros; omega)) <;> (try grind)))
  rintro ⟨i, hi, hb⟩
  simp [St.lp, St.only, keepE, getK_cons, getK]
  rcases hx : l[i]? with _ | a
  · have hge : l.length ≤ i := by simpa using hx
    obtain rfl : i = l.length := by omega
    rw [List.take_length] at hb
    repeat' (first
    | (refine H_cons ?_; simp [hx])
    | (refine HD2_val rfl ?_; simp [hx])
    | (refine HD_cons ?_; simp [hx])
    | (refine HD2_chg rfl ?_; simp [hx])
    | (refine H_nil ?_; simp [hx])
    | (refine ⟨by omega, ?_⟩)
    | (refine V_sseq ?_; simp [hx])
    | (refine V_scond ?_; simp [hx])
    | (refine HD2_nil (hC _ (by kernel_rfl)) (hk _ ?_); clear hC hk C k; simp only [RK_seq, RK_seq_ret, RK_seq_exit, RK_blk, RK_blk_ret, RK_blk_exit, RK_loop, RK_loop_ret, RK_loop_exit, RK_done])
    | (refine HD_nil ?_)
    | (refine hk _ ?_; clear hk k; simp only [RK_seq, RK_seq_ret, RK_seq_exit, RK_blk, RK_blk_ret, RK_blk_exit, RK_loop, RK_loop_ret, RK_loop_exit, RK_done])
    | (refine V_drawV rfl (by kernel_rfl) (by kernel_rfl) fun k hk => ?_; simp [hx])
    | (refine V_drawN rfl (by kernel_rfl) (by kernel_rfl) (by simp [hn]) fun C k hC hk => ?_; simp [hx])
    | (refine HD3_val rfl ?_; simp [hx])
    | (refine HD3_put ?_; simp [hx])
    | (refine HD3_chg rfl rfl ?_; simp [hx])
    | (refine HD3_nil (hC _ _ (by kernel_rfl) (by kernel_rfl)) (hk _ ?_); clear hC hk C k; simp only [RK_seq, RK_seq_ret, RK_seq_exit, RK_blk, RK_blk_ret, RK_blk_exit, RK_loop, RK_loop_ret, RK_loop_exit, RK_done]; simp [St.ins, insL, putE, getK_setOb, getK_cons])
    | (refine V_drawE rfl (by kernel_rfl) (by kernel_rfl) (by simp [hn]) fun C k hC hk => ?_; simp [hx])
    | (refine HD_guardU rfl (by simp [hx]) ?_; simp [hx])
    | (refine HD_guard rfl (by simp [hx]) (fun hc => ?_) (fun hc => ?_) <;> (try simp [hx] at hc) <;> (try (exfalso; omega)) <;> (try simp [hx]))
    | (refine HD2_guardU rfl (by simp [hx]) ?_; simp [hx])
    | (refine HD2_guard rfl (by simp [hx]) (fun hc => ?_) (fun hc => ?_) <;> (try simp [hx] at hc) <;> (try (exfalso; omega)) <;> (try simp [hx]))
    | (refine V_sblock ?_; simp [hx])
    | (refine V_sregion ?_; simp [hx])
    | (refine V_ret ?_; simp only [RK_seq, RK_seq_ret, RK_seq_exit, RK_blk, RK_blk_ret, RK_blk_exit, RK_loop, RK_loop_ret, RK_loop_exit, RK_done])
    | (refine V_skip ?_; simp only [RK_seq, RK_seq_ret, RK_seq_exit, RK_blk, RK_blk_ret, RK_blk_exit, RK_loop, RK_loop_ret, RK_loop_exit, RK_done])
    | (refine V_exit ?_; simp [RK_seq, RK_seq_ret, RK_seq_exit, RK_blk, RK_blk_ret, RK_blk_exit, RK_loop, RK_loop_ret, RK_loop_exit, RK_done])
    | (refine ⟨?_, by omega⟩)
    | (refine ⟨fun hc => ?_, fun hc => ?_⟩ <;> (try (exfalso; omega)))
    | (intro hc <;> (try (exfalso; omega))))
    (refine EndOK.val (.inr rfl) ?_; simp [resD, oneOrTup, pureD, Try.results16])
    simp [rightS, h60, hb]
  · have hlt : i < l.length := (List.getElem?_eq_some_iff.1 hx).1
    repeat' (first
    | (refine H_cons ?_; simp [hx])
    | (refine HD2_val rfl ?_; simp [hx])
    | (refine HD_cons ?_; simp [hx])
    | (refine HD2_chg rfl ?_; simp [hx])
    | (refine H_nil ?_; simp [hx])
    | (refine ⟨by omega, ?_⟩)
    | (refine V_sseq ?_; simp [hx])
    | (refine V_scond ?_; simp [hx])
    | (refine HD2_nil (hC _ (by kernel_rfl)) (hk _ ?_); clear hC hk C k; simp only [RK_seq, RK_seq_ret, RK_seq_exit, RK_blk, RK_blk_ret, RK_blk_exit, RK_loop, RK_loop_ret, RK_loop_exit, RK_done])
    | (refine HD_nil ?_)
    | (refine hk _ ?_; clear hk k; simp only [RK_seq, RK_seq_ret, RK_seq_exit, RK_blk, RK_blk_ret, RK_blk_exit, RK_loop, RK_loop_ret, RK_loop_exit, RK_done])
    | (refine V_drawV rfl (by kernel_rfl) (by kernel_rfl) fun k hk => ?_; simp [hx])
    | (refine V_drawN rfl (by kernel_rfl) (by kernel_rfl) (by simp [hn]) fun C k hC hk => ?_; simp [hx])
    | (refine HD3_val rfl ?_; simp [hx])
    | (refine HD3_put ?_; simp [hx])
    | (refine HD3_chg rfl rfl ?_; simp [hx])
    | (refine HD3_nil (hC _ _ (by kernel_rfl) (by kernel_rfl)) (hk _ ?_); clear hC hk C k; simp only [RK_seq, RK_seq_ret, RK_seq_exit, RK_blk, RK_blk_ret, RK_blk_exit, RK_loop, RK_loop_ret, RK_loop_exit, RK_done]; simp [St.ins, insL, putE, getK_setOb, getK_cons])
    | (refine V_drawE rfl (by kernel_rfl) (by kernel_rfl) (by simp [hn]) fun C k hC hk => ?_; simp [hx])
    | (refine HD_guardU rfl (by simp [hx]) ?_; simp [hx])
    | (refine HD_guard rfl (by simp [hx]) (fun hc => ?_) (fun hc => ?_) <;> (try simp [hx] at hc) <;> (try (exfalso; omega)) <;> (try simp [hx]))
    | (refine HD2_guardU rfl (by simp [hx]) ?_; simp [hx])
    | (refine HD2_guard rfl (by simp [hx]) (fun hc => ?_) (fun hc => ?_) <;> (try simp [hx] at hc) <;> (try (exfalso; omega)) <;> (try simp [hx]))
    | (refine V_sblock ?_; simp [hx])
    | (refine V_sregion ?_; simp [hx])
    | (refine V_ret ?_; simp only [RK_seq, RK_seq_ret, RK_seq_exit, RK_blk, RK_blk_ret, RK_blk_exit, RK_loop, RK_loop_ret, RK_loop_exit, RK_done])
    | (refine V_skip ?_; simp only [RK_seq, RK_seq_ret, RK_seq_exit, RK_blk, RK_blk_ret, RK_blk_exit, RK_loop, RK_loop_ret, RK_loop_exit, RK_done])
    | (refine V_exit ?_; simp [RK_seq, RK_seq_ret, RK_seq_exit, RK_blk, RK_blk_ret, RK_blk_exit, RK_loop, RK_loop_ret, RK_loop_exit, RK_done])
    | (refine ⟨?_, by omega⟩)
    | (refine ⟨fun hc => ?_, fun hc => ?_⟩ <;> (try (exfalso; omega)))
    | (intro hc <;> (try (exfalso; omega))))
    refine V_loopF (α := { j : Nat // j ≤ i ∧ ∀ y ∈ l.take j, y ≠ a }) [0, 3] (fun j => [(4, .u (.int .i64 j.1))]) (fun j => i - j.1) ⟨0, by omega, by simp⟩ ?_ ?_
    · exact (Wk.cut rfl (by simp [hn]) (by simp [wkO, St.lp, getK_cons, getK, Ob.under, D.under, under_rowsD, under_entD]) (by simp [wkU, St.lp, keepE, getK_cons, getK, D.under]) (by simp [wkE, St.lp, keepE, getK_cons, getK] <;> (try (intros; simp_all; done)) <;> (try (intros; omega)) <;> (try grind)))
    rintro ⟨j, hj, hc2⟩
    simp [St.lp, St.only, keepE, getK_cons, getK]
    by_cases hji : j < i
    · obtain ⟨b, hy⟩ : ∃ b, l[j]? = some b := ⟨_, List.getElem?_eq_getElem (by omega)⟩
      by_cases hab : b = a
      · subst hab
        have hnn := not_nodup hx hy hji
        repeat' (first
    | (refine H_cons ?_; simp [hx, hy, hji])
    | (refine HD2_val rfl ?_; simp [hx, hy, hji])
    | (refine HD_cons ?_; simp [hx, hy, hji])
    | (refine HD2_chg rfl ?_; simp [hx, hy, hji])
    | (refine H_nil ?_; simp [hx, hy, hji])
    | (refine ⟨by omega, ?_⟩)
    | (refine V_sseq ?_; simp [hx, hy, hji])
    | (refine V_scond ?_; simp [hx, hy, hji])
    | (refine HD2_nil (hC _ (by kernel_rfl)) (hk _ ?_); clear hC hk C k; simp only [RK_seq, RK_seq_ret, RK_seq_exit, RK_blk, RK_blk_ret, RK_blk_exit, RK_loop, RK_loop_ret, RK_loop_exit, RK_done])
    | (refine HD_nil ?_)
    | (refine hk _ ?_; clear hk k; simp only [RK_seq, RK_seq_ret, RK_seq_exit, RK_blk, RK_blk_ret, RK_blk_exit, RK_loop, RK_loop_ret, RK_loop_exit, RK_done])
    | (refine V_drawV rfl (by kernel_rfl) (by kernel_rfl) fun k hk => ?_; simp [hx, hy, hji])
    | (refine V_drawN rfl (by kernel_rfl) (by kernel_rfl) (by simp [hn]) fun C k hC hk => ?_; simp [hx, hy, hji])
    | (refine HD3_val rfl ?_; simp [hx, hy, hji])
    | (refine HD3_put ?_; simp [hx, hy, hji])
    | (refine HD3_chg rfl rfl ?_; simp [hx, hy, hji])
    | (refine HD3_nil (hC _ _ (by kernel_rfl) (by kernel_rfl)) (hk _ ?_); clear hC hk C k; simp only [RK_seq, RK_seq_ret, RK_seq_exit, RK_blk, RK_blk_ret, RK_blk_exit, RK_loop, RK_loop_ret, RK_loop_exit, RK_done]; simp [St.ins, insL, putE, getK_setOb, getK_cons])
    | (refine V_drawE rfl (by kernel_rfl) (by kernel_rfl) (by simp [hn]) fun C k hC hk => ?_; simp [hx, hy, hji])
    | (refine HD_guardU rfl (by simp [hx, hy, hji]) ?_; simp [hx, hy, hji])
    | (refine HD_guard rfl (by simp [hx, hy, hji]) (fun hc => ?_) (fun hc => ?_) <;> (try simp [hx, hy, hji] at hc) <;> (try (exfalso; omega)) <;> (try simp [hx, hy, hji]))
    | (refine HD2_guardU rfl (by simp [hx, hy, hji]) ?_; simp [hx, hy, hji])
    | (refine HD2_guard rfl (by simp [hx, hy, hji]) (fun hc => ?_) (fun hc => ?_) <;> (try simp [hx, hy, hji] at hc) <;> (try (exfalso; omega)) <;> (try simp [hx, hy, hji]))
    | (refine V_sblock ?_; simp [hx, hy, hji])
    | (refine V_sregion ?_; simp [hx, hy, hji])
    | (refine V_ret ?_; simp only [RK_seq, RK_seq_ret, RK_seq_exit, RK_blk, RK_blk_ret, RK_blk_exit, RK_loop, RK_loop_ret, RK_loop_exit, RK_done])
    | (refine V_skip ?_; simp only [RK_seq, RK_seq_ret, RK_seq_exit, RK_blk, RK_blk_ret, RK_blk_exit, RK_loop, RK_loop_ret, RK_loop_exit, RK_done])
    | (refine V_exit ?_; simp [RK_seq, RK_seq_ret, RK_seq_exit, RK_blk, RK_blk_ret, RK_blk_exit, RK_loop, RK_loop_ret, RK_loop_exit, RK_done])
    | (refine ⟨?_, by omega⟩)
    | (refine ⟨fun hc => ?_, fun hc => ?_⟩ <;> (try (exfalso; omega)))
    | (intro hc <;> (try (exfalso; omega))))
        (refine EndOK.val (.inr rfl) ?_; simp [resD, oneOrTup, pureD, Try.results16])
        simp [rightS, hnn]
      · repeat' (first
    | (refine H_cons ?_; simp [hx, hy, hji, hab])
    | (refine HD2_val rfl ?_; simp [hx, hy, hji, hab])
    | (refine HD_cons ?_; simp [hx, hy, hji, hab])
    | (refine HD2_chg rfl ?_; simp [hx, hy, hji, hab])
    | (refine H_nil ?_; simp [hx, hy, hji, hab])
    | (refine ⟨by omega, ?_⟩)
    | (refine V_sseq ?_; simp [hx, hy, hji, hab])
    | (refine V_scond ?_; simp [hx, hy, hji, hab])
    | (refine HD2_nil (hC _ (by kernel_rfl)) (hk _ ?_); clear hC hk C k; simp only [RK_seq, RK_seq_ret, RK_seq_exit, RK_blk, RK_blk_ret, RK_blk_exit, RK_loop, RK_loop_ret, RK_loop_exit, RK_done])
    | (refine HD_nil ?_)
    | (refine hk _ ?_; clear hk k; simp only [RK_seq, RK_seq_ret, RK_seq_exit, RK_blk, RK_blk_ret, RK_blk_exit, RK_loop, RK_loop_ret, RK_loop_exit, RK_done])
    | (refine V_drawV rfl (by kernel_rfl) (by kernel_rfl) fun k hk => ?_; simp [hx, hy, hji, hab])
    | (refine V_drawN rfl (by kernel_rfl) (by kernel_rfl) (by simp [hn]) fun C k hC hk => ?_; simp [hx, hy, hji, hab])
    | (refine HD3_val rfl ?_; simp [hx, hy, hji, hab])
    | (refine HD3_put ?_; simp [hx, hy, hji, hab])
    | (refine HD3_chg rfl rfl ?_; simp [hx, hy, hji, hab])
    | (refine HD3_nil (hC _ _ (by kernel_rfl) (by kernel_rfl)) (hk _ ?_); clear hC hk C k; simp only [RK_seq, RK_seq_ret, RK_seq_exit, RK_blk, RK_blk_ret, RK_blk_exit, RK_loop, RK_loop_ret, RK_loop_exit, RK_done]; simp [St.ins, insL, putE, getK_setOb, getK_cons])
    | (refine V_drawE rfl (by kernel_rfl) (by kernel_rfl) (by simp [hn]) fun C k hC hk => ?_; simp [hx, hy, hji, hab])
    | (refine HD_guardU rfl (by simp [hx, hy, hji, hab]) ?_; simp [hx, hy, hji, hab])
    | (refine HD_guard rfl (by simp [hx, hy, hji, hab]) (fun hc => ?_) (fun hc => ?_) <;> (try simp [hx, hy, hji, hab] at hc) <;> (try (exfalso; omega)) <;> (try simp [hx, hy, hji, hab]))
    | (refine HD2_guardU rfl (by simp [hx, hy, hji, hab]) ?_; simp [hx, hy, hji, hab])
    | (refine HD2_guard rfl (by simp [hx, hy, hji, hab]) (fun hc => ?_) (fun hc => ?_) <;> (try simp [hx, hy, hji, hab] at hc) <;> (try (exfalso; omega)) <;> (try simp [hx, hy, hji, hab]))
    | (refine V_sblock ?_; simp [hx, hy, hji, hab])
    | (refine V_sregion ?_; simp [hx, hy, hji, hab])
    | (refine V_ret ?_; simp only [RK_seq, RK_seq_ret, RK_seq_exit, RK_blk, RK_blk_ret, RK_blk_exit, RK_loop, RK_loop_ret, RK_loop_exit, RK_done])
    | (refine V_skip ?_; simp only [RK_seq, RK_seq_ret, RK_seq_exit, RK_blk, RK_blk_ret, RK_blk_exit, RK_loop, RK_loop_ret, RK_loop_exit, RK_done])
    | (refine V_exit ?_; simp [RK_seq, RK_seq_ret, RK_seq_exit, RK_blk, RK_blk_ret, RK_blk_exit, RK_loop, RK_loop_ret, RK_loop_exit, RK_done])
    | (refine ⟨?_, by omega⟩)
    | (refine ⟨fun hc => ?_, fun hc => ?_⟩ <;> (try (exfalso; omega)))
    | (intro hc <;> (try (exfalso; omega))))
        refine LoopW.next ⟨j + 1, by omega, all_snoc hy hc2 hab⟩ (by simp; omega) ?_
        exact (Wk.cut rfl (by simp [hn]) (by simp [wkO, St.lp, getK_cons, getK, Ob.under, D.under, under_rowsD, under_entD]) (by simp [wkU, St.lp, keepE, getK_cons, getK, D.under]) (by simp [wkE, St.lp, keepE, getK_cons, getK] <;> (try (intros; simp_all; done)) <;> (try (intros; omega)) <;> (try grind)))
    · obtain rfl : j = i := by omega
      repeat' (first
    | (refine H_cons ?_; simp [hx])
    | (refine HD2_val rfl ?_; simp [hx])
    | (refine HD_cons ?_; simp [hx])
    | (refine HD2_chg rfl ?_; simp [hx])
    | (refine H_nil ?_; simp [hx])
    | (refine ⟨by omega, ?_⟩)
    | (refine V_sseq ?_; simp [hx])
    | (refine V_scond ?_; simp [hx])
    | (refine HD2_nil (hC _ (by kernel_rfl)) (hk _ ?_); clear hC hk C k; simp only [RK_seq, RK_seq_ret, RK_seq_exit, RK_blk, RK_blk_ret, RK_blk_exit, RK_loop, RK_loop_ret, RK_loop_exit, RK_done])
    | (refine HD_nil ?_)
    | (refine hk _ ?_; clear hk k; simp only [RK_seq, RK_seq_ret, RK_seq_exit, RK_blk, RK_blk_ret, RK_blk_exit, RK_loop, RK_loop_ret, RK_loop_exit, RK_done])
    | (refine V_drawV rfl (by kernel_rfl) (by kernel_rfl) fun k hk => ?_; simp [hx])
    | (refine V_drawN rfl (by kernel_rfl) (by kernel_rfl) (by simp [hn]) fun C k hC hk => ?_; simp [hx])
    | (refine HD3_val rfl ?_; simp [hx])
    | (refine HD3_put ?_; simp [hx])
    | (refine HD3_chg rfl rfl ?_; simp [hx])
    | (refine HD3_nil (hC _ _ (by kernel_rfl) (by kernel_rfl)) (hk _ ?_); clear hC hk C k; simp only [RK_seq, RK_seq_ret, RK_seq_exit, RK_blk, RK_blk_ret, RK_blk_exit, RK_loop, RK_loop_ret, RK_loop_exit, RK_done]; simp [St.ins, insL, putE, getK_setOb, getK_cons])
    | (refine V_drawE rfl (by kernel_rfl) (by kernel_rfl) (by simp [hn]) fun C k hC hk => ?_; simp [hx])
    | (refine HD_guardU rfl (by simp [hx]) ?_; simp [hx])
    | (refine HD_guard rfl (by simp [hx]) (fun hc => ?_) (fun hc => ?_) <;> (try simp [hx] at hc) <;> (try (exfalso; omega)) <;> (try simp [hx]))
    | (refine HD2_guardU rfl (by simp [hx]) ?_; simp [hx])
    | (refine HD2_guard rfl (by simp [hx]) (fun hc => ?_) (fun hc => ?_) <;> (try simp [hx] at hc) <;> (try (exfalso; omega)) <;> (try simp [hx]))
    | (refine V_sblock ?_; simp [hx])
    | (refine V_sregion ?_; simp [hx])
    | (refine V_ret ?_; simp only [RK_seq, RK_seq_ret, RK_seq_exit, RK_blk, RK_blk_ret, RK_blk_exit, RK_loop, RK_loop_ret, RK_loop_exit, RK_done])
    | (refine V_skip ?_; simp only [RK_seq, RK_seq_ret, RK_seq_exit, RK_blk, RK_blk_ret, RK_blk_exit, RK_loop, RK_loop_ret, RK_loop_exit, RK_done])
    | (refine V_exit ?_; simp [RK_seq, RK_seq_ret, RK_seq_exit, RK_blk, RK_blk_ret, RK_blk_exit, RK_loop, RK_loop_ret, RK_loop_exit, RK_done])
    | (refine ⟨?_, by omega⟩)
    | (refine ⟨fun hc => ?_, fun hc => ?_⟩ <;> (try (exfalso; omega)))
    | (intro hc <;> (try (exfalso; omega))))
      refine LoopW.next ⟨j + 1, by omega, nodup_snoc hx hb hc2⟩ (by simp; omega) ?_
      exact (Wk.cut rfl (by simp [hn]) (by simp [wkO, St.lp, getK_cons, getK, Ob.under, D.under, under_rowsD, under_entD]) (by simp [wkU, St.lp, keepE, getK_cons, getK, D.under]) (by simp [wkE, St.lp, keepE, getK_cons, getK] <;> (try (intros; simp_all; done)) <;> (try (intros; omega)) <;> (try grind)))
end Go.Proofs.Ytmebfcehkfaiaaa
