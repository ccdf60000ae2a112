/- Layer 26: a level pays: the walks. -/
import Derived.Test.YtjmddlekokodfaaBd
set_option linter.all false
set_option maxRecDepth 100000
set_option maxHeartbeats 8000000
set_option linter.all false
namespace Go.Proofs.Ytjmddlekokodfaa
open Go Go.VL
attribute [local simp] hcons hstep evPure opd uOf putOK St.put St.at getK binD binI binS binB nilD aggD eqUs cmpK lookD lookR rangeD nextD entryD keyD valU keyU lookK mkV entD_nil lookK_entD updK_entD1 updK_entD2 updK_entD3 allUE allUE_entD makeMapD mapUpdD mapEff updK valM Key.kk shiftI arith unD convD pickD loadD cellsAt fieldAddrD fieldD indexAddrD indexD sliceD cutD lenD minmaxD nilCheckD buildD fillD cellsD isOne ones setAll mkAgg allU allocD boxD storeD St.add buildSliceD appendD rowsOf makeD setOb getK_setOb getK_del getK_cons stripL strip guardTmp entry chunks zcells valD argsV argsW argW argU1 argU0 argsU0 argsU1 calleeOf scalarD scalarU delAll effD St.effS RK_seq RK_seq_ret RK_seq_exit RK_blk RK_blk_ret RK_blk_exit RK_loop RK_loop_ret RK_loop_exit RK_done vs_seq vs_block vs_skip vs_label vs_exit vs_ret vs_cond vs_region vs_loop vs_draw vs_range vs_scope applyW mkD rdIds lentIds callOf calleeOf freeOp D.ids Op.operands Call.operands isEffOp IntKind.bits allU2 allU2_append List.take_of_length_le List.range_succ
attribute [local irreducible] V G H HD HD2 RunK Eff CallP CallV EndOK Fun Ret FinOK LoopI LoopW EndW
theorem pays_ret (n M I d : Nat) (B : List (List Int)) (means row : List Int) (left p mi ri : Int) (hn60 : n ≤ 60) (hnM : n ≤ M) (hI : I < n) (hd : d < n) (hml : means.length = n) (hrl : row.length = n) (hmi : means[I]? = some mi) (hri : row[d]? = some ri)
    (h1 : 0 ≤ p ∧ p ≤ maxC + 1) (h2 : 0 ≤ mi ∧ mi ≤ maxC) (h3 : 0 ≤ ri ∧ ri ≤ maxC * 1000) (h4 : -maxC - 1 ≤ left ∧ left ≤ maxC) : Ret Try.prog 28 [.u (.int .i64 I), .u (.int .i64 p), .ptr (M + 16) 0, .ptr (M + 18) 0, .ptr (M + 17) 0]
    [(M + 16, .box [.ptr 0 0]), (M + 17, .box [.u (.int .i64 left)]), (M + 18, .box [.u (.int .i64 d)]), (0, .box [.u (lists B), .vec 1 n, .vec 2 n]), (1, .vec 3 1 (intR means)), (2, .vec 22 1 (idR 16 n n)), (I + 16, .vec 3 1 (intR row))] (M + 20)
    fun r obs nx' => r = .tup [] ∧ nx' = M + 20 ∧
      obs = [(M + 16, .box [.ptr 0 0]), (M + 17, .box [.u (.int .i64 (left - p))]), (M + 18, .box [.u (.int .i64 d)]), (0, .box [.u (lists B), .vec 1 n, .vec 2 n]), (1, .vec 3 1 (intR (means.set I (mi - p)))), (2, .vec 22 1 (idR 16 n n)), (I + 16, .vec 3 1 (intR (row.set d (ri + p))))] := by
  have e1 : ¬ I = M := by omega
  have e2 : ¬ I = M + 1 := by omega
  have e3 : ¬ I = M + 2 := by omega
  have e4 : ¬ M = I := by omega
  have hmE : ∀ h : I < means.length, means[I]'h = mi := fun h => (List.getElem?_eq_some_iff.1 hmi).2
  have hrE : ∀ h : d < row.length, row[d]'h = ri := fun h => (List.getElem?_eq_some_iff.1 hri).2
  simp only [maxC] at h1 h2 h3 h4
  (refine Ret.of_body Try.func28 rfl (by simp) fun Γ hn => ?_); simp only [entry, List.zipIdx_cons, List.zipIdx_nil, List.map_cons, List.map_nil, Nat.zero_add, Try.ntmps28]
  repeat' (first
    | (refine H_cons ?_; simp [intR_len, intR_getE, intR_set, idR_len, idR_getE, hml, hrl, hI, hd, hmE, hrE, e1, e2, e3, e4])
    | (refine HD2_val rfl ?_; simp [intR_len, intR_getE, intR_set, idR_len, idR_getE, hml, hrl, hI, hd, hmE, hrE, e1, e2, e3, e4])
    | (refine HD2_chg rfl ?_; simp [intR_len, intR_getE, intR_set, idR_len, idR_getE, hml, hrl, hI, hd, hmE, hrE, e1, e2, e3, e4])
    | (refine H_nil ?_; simp [intR_len, intR_getE, intR_set, idR_len, idR_getE, hml, hrl, hI, hd, hmE, hrE, e1, e2, e3, e4])
    | (refine ⟨by omega, ?_⟩)
    | (refine V_sseq ?_; simp [intR_len, intR_getE, intR_set, idR_len, idR_getE, hml, hrl, hI, hd, hmE, hrE, e1, e2, e3, e4])
    | (refine HD2_nil (hC _ (by kernel_rfl)) (hk _ ?_); clear hC hk C k; simp only [RK_seq, RK_seq_ret, RK_seq_exit, RK_blk, RK_blk_ret, RK_blk_exit, RK_loop, RK_loop_ret, RK_loop_exit, RK_done])
    | (refine V_drawE rfl (by kernel_rfl) (by kernel_rfl) (by simp [hn]) fun C k hC hk => ?_; simp [intR_len, intR_getE, intR_set, idR_len, idR_getE, hml, hrl, hI, hd, hmE, hrE, e1, e2, e3, e4])
    | (refine V_sregion ?_; simp [intR_len, intR_getE, intR_set, idR_len, idR_getE, hml, hrl, hI, hd, hmE, hrE, e1, e2, e3, e4])
    | fail)
  (first | (refine EndOK.fin (.inr rfl) ?_) | (refine EndOK.fin (.inl rfl) ?_)); simp [resD, oneOrTup, Try.results28]
  exact FinOK.here (by simp) ⟨rfl, rfl, by simp⟩
theorem vs_take {level : List Nat} {Mf : Nat → Int} {k v : Nat} (hx : level[k]? = some v) : vsOf (level.take (k + 1)) Mf = vsOf (level.take k) Mf ++ [Mf v] := by rw [take_snoc hx]; simp [vsOf]
theorem pay_ret (n M d : Nat) (B : List (List Int)) (Mf : Nat → Int) (P : Nat → Nat → Int) (level : List Nat) (a : Int) (hn60 : n ≤ 60) (hnM : n ≤ M) (hd : d < n) (hM : OkM n Mf) (hP : ∀ i, i < n → 0 ≤ P i d ∧ P i d ≤ maxC * 500) (hlv : ∀ i ∈ level, i < n) (hnd : level.Nodup) (ha : 0 ≤ a ∧ a ≤ maxC) :
    Ret Try.prog 22 [.ptr 0 0, .u (.int .i64 a), .vec 5 level.length, .u (.int .i64 d)]
    ((0, .box [.u (lists B), .vec 1 n, .vec 2 n]) :: (1, .vec 3 1 (intR (lst n Mf))) :: (2, .vec 22 1 (idR 16 n n)) :: (5, .vec 3 1 (intR (nats level))) :: fam 16 (rowsOb 3 n P n)) (M + 16)
    fun r obs nx' => r = .u (.int .i64 (payLeft level Mf a)) ∧
      obs = (0, .box [.u (lists B), .vec 1 n, .vec 2 n]) :: (1, .vec 3 1 (intR (lst n fun i => Mf i - payQ level Mf a i))) :: (2, .vec 22 1 (idR 16 n n)) :: (5, .vec 3 1 (intR (nats level))) :: fam 16 (rowsOb 3 n (fun i j => if j = d then P i d + payQ level Mf a i else P i j) n) := by
  have hMk : ∀ k, n ≤ M + k := fun k => by omega
  have hll : level.length ≤ n := seen_len hnd hlv
  (refine Ret.of_bodyW Try.func22 rfl (by simp) fun Γ hn => ?_); simp only [entry, List.zipIdx_cons, List.zipIdx_nil, List.map_cons, List.map_nil, Nat.zero_add, Try.ntmps22]
  repeat' (first
    | (refine H_cons ?_; simp [intR_len, Nat.add_assoc])
    | (refine H_nil ?_; simp [intR_len, Nat.add_assoc])
    | (refine V_sseq ?_; simp [intR_len, Nat.add_assoc])
    | (refine V_sblock ?_; simp [intR_len, Nat.add_assoc])
    | fail)
  refine V_wk _ (Wk.own 9 3 1 (by decide) rfl) ?_
  simp [St.own]
  refine V_loopO (α := { k : Nat // k ≤ level.length }) [2, 4, 5, 7, 18, 19] (fun k => [(9, .vec (M + 19) k.1), (20, .u (.int .i64 k.1))])
    (fun k => (M + 19, .vec 3 1 (intR (vsOf (level.take k.1) Mf))) :: (M + 18, .box [.u (.int .i64 d)]) :: (M + 17, .box [.u (.int .i64 a)]) :: (M + 16, .box [.ptr 0 0]) :: (0, .box [.u (lists B), .vec 1 n, .vec 2 n]) :: (1, .vec 3 1 (intR (lst n Mf))) :: (2, .vec 22 1 (idR 16 n n)) :: (5, .vec 3 1 (intR (nats level))) :: fam 16 (rowsOb 3 n P n)) (M + 20) (fun k => level.length - k.1) ⟨0, by omega⟩ ?_ ?_
  · exact (Wk.cut rfl (by simp [hn, St.lp]) (by simp [wkO, wkO_tail, endsIn_here, endsIn_cons, del_cons, del_fam, St.lp, getK_cons, getK, Ob.under, D.under, under_rowsD, under_entD, intR, pure_intR, under_intR, vsOf, rowsOb_len, rowsOb_pure, hMk, hnM, idR_under2, Nat.add_assoc]) (by simp [wkU, St.lp, keepE, getK_cons, getK, D.under, intR, pure_intR, under_intR, vsOf, rowsOb_len, rowsOb_pure, hMk, hnM, idR_under2, Nat.add_assoc]) (by simp [wkE, St.lp, keepE, getK_cons, getK, intR, pure_intR, under_intR, vsOf, rowsOb_len, rowsOb_pure, hMk, hnM, idR_under2, Nat.add_assoc] <;> (try (intros; simp_all; done)) <;> (try (intros; omega)) <;> (try grind)))
  rintro ⟨k, hk⟩
  simp [St.lp, St.only, keepE, getK_cons, getK]
  have hget : ∀ v, v < n → (lst n Mf)[v]? = some (Mf v) := fun v hv => lst_get Mf hv
  rcases hx : level[k]? with _ | v
  case some =>
    have hlt : k < level.length := (List.getElem?_eq_some_iff.1 hx).1
    have hxE : ∀ h : k < level.length, level[k]'h = v := fun h => (List.getElem?_eq_some_iff.1 hx).2
    have hv := hlv v (List.mem_of_getElem? hx)
    have hgE : ∀ h : v < (lst n Mf).length, (lst n Mf)[v]'h = Mf v := fun h => lst_getE n Mf v h
    have hap : intR (vsOf (level.take k) Mf) ++ [[D.u (.int .i64 (Mf v))]] = intR (vsOf (level.take (k + 1)) Mf) := by rw [vs_take hx]; simp [intR]
    have hlr : lenR 1 (intR (vsOf (level.take k) Mf)) := by simp [intR]
    have hvl : (vsOf (level.take k) Mf).length = k := by simp [vsOf]; omega
    repeat' (first
    | (refine H_cons ?_; simp [intR_len, intR_getE, hlt, hxE, lst_len, hgE, hv, hap, hlr, hvl, Nat.add_assoc])
    | (refine H_nil ?_; simp [intR_len, intR_getE, hlt, hxE, lst_len, hgE, hv, hap, hlr, hvl, Nat.add_assoc])
    | (refine ⟨by omega, ?_⟩)
    | (refine V_sseq ?_; simp [intR_len, intR_getE, hlt, hxE, lst_len, hgE, hv, hap, hlr, hvl, Nat.add_assoc])
    | (refine V_sregion ?_; simp [intR_len, intR_getE, hlt, hxE, lst_len, hgE, hv, hap, hlr, hvl, Nat.add_assoc])
    | (refine V_skip ?_; simp only [RK_seq, RK_seq_ret, RK_seq_exit, RK_blk, RK_blk_ret, RK_blk_exit, RK_loop, RK_loop_ret, RK_loop_exit, RK_done])
    | fail)
    refine LoopW.next ⟨k + 1, by omega⟩ (by simp; omega) ?_
    exact (Wk.ren1 (M + 19) (M + 21) rfl (by simp [hn]) (by simp [hn]) (by simp [pure_intR, under_intR, rowsOb_len, rowsOb_pure, hMk, hnM, idR_fix1, Nat.add_assoc]) (by simp [wkER, rho1, St.lp, keepE, getK_cons, getK, getK_del, getK_setOb, D.under, D.le, D.ren, pure_intR, under_intR, rowsOb_len, rowsOb_pure, hMk, hnM, idR_fix1, Nat.add_assoc] <;> (try (intros; simp_all; done)) <;> (try omega)) (by simp [wkR, wkR_tail1, endsIn_here, endsIn_cons, del_cons, del_fam, rho1, St.lp, getK_cons, getK, getK_del, getK_setOb, obR, leU, pureRow, pureRows, Ob.under, D.under, D.le, D.ren, pure_intR, under_intR, rowsOb_len, rowsOb_pure, hMk, hnM, idR_fix1, Nat.add_assoc] <;> (try (intros; simp_all; done)) <;> (try omega)))
  have hge : level.length ≤ k := by simpa using hx
  obtain rfl : k = level.length := by omega
  have hvs := vs_ok hM hlv
  have hhf := height_fun (vsOf level Mf) a (by simp [vsOf]; omega) hvs ha.1 ha.2
  have hvl : (vsOf level Mf).length = level.length := by simp [vsOf]
  have hIs := hgt_ok hvs ha.1
  rw [List.take_length]
  repeat' (first
    | (refine H_cons ?_; simp [intR_len, intR_all, hvl, Nat.add_assoc])
    | (refine H_nil ?_; simp [intR_len, intR_all, hvl, Nat.add_assoc])
    | (refine V_sseq ?_; simp [intR_len, intR_all, hvl, Nat.add_assoc])
    | (refine V_sblock ?_; simp [intR_len, intR_all, hvl, Nat.add_assoc])
    | (refine V_exit ?_; simp [RK_seq, RK_seq_ret, RK_seq_exit, RK_blk, RK_blk_ret, RK_blk_exit, RK_loop, RK_loop_ret, RK_loop_exit, RK_done])
    | (refine CallP.fun_ (hhf) (by first | rfl | fail) (by first | assumption | (simp; done) | fail) (by first | (simp [intR_len, intR_all, hvl, Nat.add_assoc]; done) | (simp [intR_len, intR_all, hvl, Nat.add_assoc]; rfl) | fail) (by first | (simp; done) | fail) (fun d hd => ?_); subst hd; (try simp [intR_len, intR_all, hvl, Nat.add_assoc]))
    | fail)
  have hvd : vsOf level Mf = level.map Mf := rfl
  generalize hhh : hgt (vsOf level Mf) a = h at hIs
  obtain ⟨hI0, hI1, hI2, hI3⟩ := hIs
  generalize hvv : vsOf level Mf = vs at hvs hvl hI2 hI3 hvd
  have hmk : ∀ k v, level[k]? = some v → vs[k]? = some (Mf v) := fun k v hx => by rw [hvd, List.getElem?_map, hx]; rfl
  obtain ⟨ms, hms⟩ : ∃ ms, ms = vs.map fun v => min v h := ⟨_, rfl⟩
  have hml : ms.length = level.length := by rw [hms, List.length_map, hvl]
  have hmsk : ∀ k v, level[k]? = some v → ms[k]? = some (min (Mf v) h) := fun k v hx => by rw [hms, List.getElem?_map, hmk k v hx]; rfl
  have hbt : ∀ k v, level[k]? = some v → below (vs.take (k + 1)) h = below (vs.take k) h + min (Mf v) h := fun k v hx => by rw [take_snoc (hmk k v hx), below_snoc]
  have hbm : ∀ k, 0 ≤ below (vs.take k) h ∧ below (vs.take k) h ≤ a := fun k => by
    have h1 := below_nonneg (vs := vs.take k) (h := h) (fun x hx => (hvs x (List.mem_of_mem_take hx)).1) hI0
    have h2 : below vs h = below (vs.take k) h + below (vs.drop k) h := by
      unfold below
      rw [← List.sum_append, ← List.map_append, List.take_append_drop]
    have h3 := below_nonneg (vs := vs.drop k) (h := h) (fun x hx => (hvs x (List.mem_of_mem_drop hx)).1) hI0
    omega
  have hnot : ∀ k v, level[k]? = some v → v ∉ level.take k := fun k v hx hm => by
    obtain ⟨j, hj, e⟩ := List.mem_iff_getElem.1 hm
    rw [List.length_take] at hj
    rw [List.getElem_take] at e
    have hlt : k < level.length := (List.getElem?_eq_some_iff.1 hx).1
    exact (List.pairwise_iff_getElem.1 hnd j k (by omega) hlt (by omega)) (by rw [e, (List.getElem?_eq_some_iff.1 hx).2])
  refine V_loopO (α := { k : Nat // k ≤ level.length }) [2, 5, 9, 12, 13, 39, 40] (fun k => [(41, .u (.int .i64 k.1))])
    (fun k => (M + 19, .vec 3 1 (intR vs)) :: (5, .vec 3 1 (intR (nats level))) :: (M + 16, .box [.ptr 0 0]) :: (M + 17, .box [.u (.int .i64 (a - below (vs.take k.1) h))]) :: (M + 18, .box [.u (.int .i64 d)]) :: (0, .box [.u (lists B), .vec 1 n, .vec 2 n]) ::
      (1, .vec 3 1 (intR (lst n fun i => Mf i - pf (level.take k.1) (ms.take k.1) i))) :: (2, .vec 22 1 (idR 16 n n)) :: fam 16 (rowsOb 3 n (fun i j => if j = d then P i d + pf (level.take k.1) (ms.take k.1) i else P i j) n)) (M + 20) (fun k => level.length - k.1) ⟨0, by omega⟩ ?_ ?_
  · have h0 : rowsOb 3 n (fun i j => if j = d then P i d else P i j) n = rowsOb 3 n P n := rowsOb_ext fun i hi j hj => by
      split
      · rename_i e; rw [e]
      · rfl
    exact (Wk.cut rfl (by simp [hn, St.lp]) (by simp [wkO, wkO_tail, endsIn_here, endsIn_cons, del_cons, del_fam, St.lp, getK_cons, getK, Ob.under, D.under, under_rowsD, under_entD, pure_intR, under_intR, rowsOb_len, rowsOb_pure, hMk, hnM, idR_under2, Nat.add_assoc, below, pf, h0]) (by simp [wkU, St.lp, keepE, getK_cons, getK, D.under, pure_intR, under_intR, rowsOb_len, rowsOb_pure, hMk, hnM, idR_under2, Nat.add_assoc, below, pf, h0]) (by simp [wkE, St.lp, keepE, getK_cons, getK, pure_intR, under_intR, rowsOb_len, rowsOb_pure, hMk, hnM, idR_under2, Nat.add_assoc, below, pf, h0] <;> (try (intros; simp_all; done)) <;> (try (intros; omega)) <;> (try grind)))
  rintro ⟨k, hk⟩
  simp [St.lp, St.only, keepE, getK_cons, getK]
  rcases hx : level[k]? with _ | v
  case some =>
    have hlt : k < level.length := (List.getElem?_eq_some_iff.1 hx).1
    have hxE : ∀ h : k < level.length, level[k]'h = v := fun h => (List.getElem?_eq_some_iff.1 hx).2
    have hv := hlv v (List.mem_of_getElem? hx)
    have hvk := hmk k v hx
    have hvE : ∀ h : k < vs.length, vs[k]'h = Mf v := fun h => (List.getElem?_eq_some_iff.1 hvk).2
    have hPv := hP v hv
    have hp0 := pf_out (level.take k) (ms.take k) v (hnot k v hx)
    have hsn : ∀ i, pf (level.take (k + 1)) (ms.take (k + 1)) i = pf (level.take k) (ms.take k) i + if i = v then min (Mf v) h else 0 := fun i => by
      rw [take_snoc hx, take_snoc (hmsk k v hx), pf_snoc _ _ _ _ _ (by simp [hml])]
    have hb1 := hbm k
    have hb2 := hbm (k + 1)
    have hb3 := hbt k v hx
    have hMv0 := hM.lo v hv
    have hMv1 := hM.hi v hv
    have hcall := pays_ret n M v d B (lst n fun i => Mf i - pf (level.take k) (ms.take k) i) (lst n fun j => if j = d then P v d + pf (level.take k) (ms.take k) v else P v j) (a - below (vs.take k) h) (min (Mf v) h) (Mf v) (P v d) hn60 hnM hv hd (lst_len _ _) (lst_len _ _)
      (by rw [lst_get _ hv, hp0]; simp) (by rw [lst_get _ hd, if_pos rfl, hp0]; simp) (by simp only [maxC] at *; omega) ⟨hMv0, hMv1⟩ (by have := hP v hv; simp only [maxC] at *; omega) (by simp only [maxC] at *; omega)
    have e1 : (lst n fun i => Mf i - pf (level.take k) (ms.take k) i).set v (Mf v - min (Mf v) h) = lst n fun i => Mf i - pf (level.take (k + 1)) (ms.take (k + 1)) i := by
      rw [lst_set]
      refine lst_ext fun i _ => ?_
      rw [hsn i]
      by_cases hiv : i = v
      · subst hiv; simp [hp0]
      · simp [hiv]
    have e2 : (lst n fun j => if j = d then P v d + pf (level.take k) (ms.take k) v else P v j).set d (P v d + min (Mf v) h) = lst n fun j => if j = d then P v d + pf (level.take (k + 1)) (ms.take (k + 1)) v else P v j := by
      rw [lst_set]
      refine lst_ext fun j _ => ?_
      rw [hsn v]
      by_cases hj : j = d
      · subst hj; simp [hp0]
      · simp [hj]
    have e3 : (rowsOb 3 n (fun i j => if j = d then P i d + pf (level.take k) (ms.take k) i else P i j) n).set v (.vec 3 1 (intR (lst n fun j => if j = d then P v d + pf (level.take (k + 1)) (ms.take (k + 1)) v else P v j))) = rowsOb 3 n (fun i j => if j = d then P i d + pf (level.take (k + 1)) (ms.take (k + 1)) i else P i j) n := by
      rw [rowsOb_set]
      refine rowsOb_ext fun i _ j _ => ?_
      by_cases hiv : i = v
      · subst hiv; simp
      · simp only [if_neg hiv]; rw [hsn i, if_neg hiv]; simp
    rw [e1, e2] at hcall
    repeat' (first
    | (refine H_cons ?_; simp [intR_len, intR_getE, hlt, hxE, hvl, hvE, Nat.add_assoc])
    | (refine H_nil ?_; simp [intR_len, intR_getE, hlt, hxE, hvl, hvE, Nat.add_assoc])
    | (refine V_sseq ?_; simp [intR_len, intR_getE, hlt, hxE, hvl, hvE, Nat.add_assoc])
    | (refine V_sregion ?_; simp [intR_len, intR_getE, hlt, hxE, hvl, hvE, Nat.add_assoc])
    | (refine V_skip ?_; simp only [RK_seq, RK_seq_ret, RK_seq_exit, RK_blk, RK_blk_ret, RK_blk_exit, RK_loop, RK_loop_ret, RK_loop_exit, RK_done])
    | fail)
    refine CallP.retFam [(M + 19, .vec 3 1 (intR vs)), (5, .vec 3 1 (intR (nats level)))] [(M + 16, .box [.ptr 0 0]), (M + 17, .box [.u (.int .i64 (a - below (vs.take k) h))]), (M + 18, .box [.u (.int .i64 d)]), (0, .box [.u (lists B), .vec 1 n, .vec 2 n]), (1, .vec 3 1 (intR (lst n fun i => Mf i - pf (level.take k) (ms.take k) i))), (2, .vec 22 1 (idR 16 n n))] [(M + 16, .box [.ptr 0 0]), (M + 17, .box [.u (.int .i64 (a - below (vs.take k) h - min (Mf v) h))]), (M + 18, .box [.u (.int .i64 d)]), (0, .box [.u (lists B), .vec 1 n, .vec 2 n]), (1, .vec 3 1 (intR (lst n fun i => Mf i - pf (level.take (k + 1)) (ms.take (k + 1)) i))), (2, .vec 22 1 (idR 16 n n))] 16 v (rowsOb 3 n (fun i j => if j = d then P i d + pf (level.take k) (ms.take k) i else P i j) n) _ (.vec 3 1 (intR (lst n fun j => if j = d then P v d + pf (level.take (k + 1)) (ms.take (k + 1)) v else P v j))) hcall (rowsOb_get _ _ _ hv) (fun j => rfl) (by simp [rowsOb_len, hMk, hnM]) (by simp [rowsOb_len, hMk, hnM]) (by simp [rowsOb_len, hMk, hnM]) (by rfl) (by first | assumption | simp) (by rfl) (by simp) ?_
    rintro r o1 nx' hnx ⟨rfl, rfl, rfl⟩
    refine ⟨rfl, ?_⟩
    rw [e3]
    have hle : a - below (vs.take k) h - min (Mf v) h = a - below (vs.take (k + 1)) h := by rw [hb3]; omega
    simp [hle]
    repeat' (first
    | (refine H_cons ?_; simp [hle])
    | (refine H_nil ?_; simp [hle])
    | (refine ⟨by omega, ?_⟩)
    | (refine V_sregion ?_; simp [hle])
    | fail)
    refine LoopW.next ⟨k + 1, by omega⟩ (by simp; omega) ?_
    exact (Wk.cut rfl (by simp [hn, St.lp]) (by simp [wkO, wkO_tail, endsIn_here, endsIn_cons, del_cons, del_fam, St.lp, getK_cons, getK, Ob.under, D.under, under_rowsD, under_entD, pure_intR, under_intR, rowsOb_len, rowsOb_pure, hMk, hnM, idR_under2, Nat.add_assoc]) (by simp [wkU, St.lp, keepE, getK_cons, getK, D.under, pure_intR, under_intR, rowsOb_len, rowsOb_pure, hMk, hnM, idR_under2, Nat.add_assoc]) (by simp [wkE, St.lp, keepE, getK_cons, getK, pure_intR, under_intR, rowsOb_len, rowsOb_pure, hMk, hnM, idR_under2, Nat.add_assoc] <;> (try (intros; simp_all; done)) <;> (try (intros; omega)) <;> (try grind)))
  have hge : level.length ≤ k := by simpa using hx
  obtain rfl : k = level.length := by omega
  rw [List.take_of_length_le (l := vs) (by omega), List.take_of_length_le (l := ms) (by omega), List.take_length]
  repeat' (first
    | (refine H_cons ?_; simp [intR_len, Nat.add_assoc])
    | (refine H_nil ?_; simp [intR_len, Nat.add_assoc])
    | (refine V_sseq ?_; simp [intR_len, Nat.add_assoc])
    | (refine V_sblock ?_; simp [intR_len, Nat.add_assoc])
    | (refine V_exit ?_; simp [RK_seq, RK_seq_ret, RK_seq_exit, RK_blk, RK_blk_ret, RK_blk_exit, RK_loop, RK_loop_ret, RK_loop_exit, RK_done])
    | fail)
  obtain ⟨os, hos⟩ : ∃ os, os = ones1 vs h (a - below vs h) := ⟨_, rfl⟩
  have hm0 : 0 ≤ a - below vs h := by omega
  have hbn : 0 ≤ below vs h := by have := (hbm vs.length).1; rwa [List.take_length] at this
  have hol : os.length = level.length := by rw [hos, ones1_len, hvl]
  have hot : ∀ k, os.take k = ones1 (vs.take k) h (a - below vs h) := fun k => by rw [hos, ones1_take]
  have hos1 : ∀ k, 0 ≤ (os.take k).sum ∧ (os.take k).sum ≤ a - below vs h := fun k => by
    rw [hot, ones1_sum _ _ _ hm0]
    have := over_nonneg (vs.take k) h
    omega
  have hok : ∀ k v, level[k]? = some v → os[k]? = some (if h < Mf v ∧ 0 < a - below vs h - (os.take k).sum then 1 else 0) := fun k v hx => by
    rw [hot, hos]
    exact ones1_get vs h _ k (Mf v) hm0 (hmk k v hx)
  have hpm : ∀ k v, level[k]? = some v → pf level ms v = min (Mf v) h := fun k v hx => pf_in level ms k v _ hnd hx (hmsk k v hx)
  refine V_loopO (α := { k : Nat // k ≤ level.length }) [5, 9, 12, 13, 56, 57] (fun k => [(58, .u (.int .i64 k.1))])
    (fun k => (M + 19, .vec 3 1 (intR vs)) :: (5, .vec 3 1 (intR (nats level))) :: (M + 16, .box [.ptr 0 0]) :: (M + 17, .box [.u (.int .i64 (a - below vs h - (os.take k.1).sum))]) :: (M + 18, .box [.u (.int .i64 d)]) :: (0, .box [.u (lists B), .vec 1 n, .vec 2 n]) ::
      (1, .vec 3 1 (intR (lst n fun i => Mf i - pf level ms i - pf (level.take k.1) (os.take k.1) i))) :: (2, .vec 22 1 (idR 16 n n)) :: fam 16 (rowsOb 3 n (fun i j => if j = d then P i d + (pf level ms i + pf (level.take k.1) (os.take k.1) i) else P i j) n)) (M + 20) (fun k => level.length - k.1) ⟨0, by omega⟩ ?_ ?_
  · exact (Wk.cut rfl (by simp [hn, St.lp]) (by simp [wkO, wkO_tail, endsIn_here, endsIn_cons, del_cons, del_fam, St.lp, getK_cons, getK, Ob.under, D.under, under_rowsD, under_entD, pure_intR, under_intR, rowsOb_len, rowsOb_pure, hMk, hnM, idR_under2, Nat.add_assoc, pf]) (by simp [wkU, St.lp, keepE, getK_cons, getK, D.under, pure_intR, under_intR, rowsOb_len, rowsOb_pure, hMk, hnM, idR_under2, Nat.add_assoc, pf]) (by simp [wkE, St.lp, keepE, getK_cons, getK, pure_intR, under_intR, rowsOb_len, rowsOb_pure, hMk, hnM, idR_under2, Nat.add_assoc, pf] <;> (try (intros; simp_all; done)) <;> (try (intros; omega)) <;> (try grind)))
  rintro ⟨k, hk⟩
  simp [St.lp, St.only, keepE, getK_cons, getK]
  rcases hx : level[k]? with _ | v
  case some =>
    have hlt : k < level.length := (List.getElem?_eq_some_iff.1 hx).1
    have hxE : ∀ h : k < level.length, level[k]'h = v := fun h => (List.getElem?_eq_some_iff.1 hx).2
    have hv := hlv v (List.mem_of_getElem? hx)
    have hvk := hmk k v hx
    have hvE : ∀ h : k < vs.length, vs[k]'h = Mf v := fun h => (List.getElem?_eq_some_iff.1 hvk).2
    have hPv := hP v hv
    have hp0 := pf_out (level.take k) (os.take k) v (hnot k v hx)
    have hpv := hpm k v hx
    have hq := hok k v hx
    have hb1 := hos1 k
    have hb2 := hos1 (k + 1)
    have hMv0 := hM.lo v hv
    have hMv1 := hM.hi v hv
    by_cases hone : h < Mf v ∧ 0 < a - below vs h - (os.take k).sum
    · rw [if_pos hone] at hq
      have hsum : (os.take (k + 1)).sum = (os.take k).sum + 1 := by rw [take_snoc hq]; simp
      have hsn : ∀ i, pf (level.take (k + 1)) (os.take (k + 1)) i = pf (level.take k) (os.take k) i + if i = v then 1 else 0 := fun i => by
        rw [take_snoc hx, take_snoc hq, pf_snoc _ _ _ _ _ (by simp [hol])]
      have hcall := pays_ret n M v d B (lst n fun i => Mf i - pf level ms i - pf (level.take k) (os.take k) i) (lst n fun j => if j = d then P v d + (pf level ms v + pf (level.take k) (os.take k) v) else P v j) (a - below vs h - (os.take k).sum) 1 (Mf v - min (Mf v) h) (P v d + min (Mf v) h) hn60 hnM hv hd (lst_len _ _) (lst_len _ _)
        (by rw [lst_get _ hv, hp0, hpv]; simp) (by rw [lst_get _ hd, if_pos rfl, hp0, hpv]; simp) (by simp [maxC]) (by simp only [maxC] at *; omega) (by simp only [maxC] at *; omega) (by simp only [maxC] at *; omega)
      have e1 : (lst n fun i => Mf i - pf level ms i - pf (level.take k) (os.take k) i).set v (Mf v - min (Mf v) h - 1) = lst n fun i => Mf i - pf level ms i - pf (level.take (k + 1)) (os.take (k + 1)) i := by
        rw [lst_set]
        refine lst_ext fun i _ => ?_
        rw [hsn i]
        by_cases hiv : i = v
        · subst hiv; simp [hp0, hpv]
        · simp [hiv]
      have e2 : (lst n fun j => if j = d then P v d + (pf level ms v + pf (level.take k) (os.take k) v) else P v j).set d (P v d + min (Mf v) h + 1) = lst n fun j => if j = d then P v d + (pf level ms v + pf (level.take (k + 1)) (os.take (k + 1)) v) else P v j := by
        rw [lst_set]
        refine lst_ext fun j _ => ?_
        rw [hsn v]
        by_cases hj : j = d
        · subst hj; simp [hp0, hpv]; omega
        · simp [hj]
      have e3 : (rowsOb 3 n (fun i j => if j = d then P i d + (pf level ms i + pf (level.take k) (os.take k) i) else P i j) n).set v (.vec 3 1 (intR (lst n fun j => if j = d then P v d + (pf level ms v + pf (level.take (k + 1)) (os.take (k + 1)) v) else P v j))) = rowsOb 3 n (fun i j => if j = d then P i d + (pf level ms i + pf (level.take (k + 1)) (os.take (k + 1)) i) else P i j) n := by
        rw [rowsOb_set]
        refine rowsOb_ext fun i _ j _ => ?_
        by_cases hiv : i = v
        · subst hiv; simp
        · simp only [if_neg hiv]; rw [hsn i, if_neg hiv]; simp
      rw [e1, e2] at hcall
      repeat' (first
    | (refine H_cons ?_; simp [intR_len, intR_getE, hlt, hxE, hvl, hvE, hone.1, hone.2, Nat.add_assoc])
    | (refine H_nil ?_; simp [intR_len, intR_getE, hlt, hxE, hvl, hvE, hone.1, hone.2, Nat.add_assoc])
    | (refine V_sseq ?_; simp [intR_len, intR_getE, hlt, hxE, hvl, hvE, hone.1, hone.2, Nat.add_assoc])
    | (refine V_scond ?_; simp [intR_len, intR_getE, hlt, hxE, hvl, hvE, hone.1, hone.2, Nat.add_assoc])
    | (refine V_sregion ?_; simp [intR_len, intR_getE, hlt, hxE, hvl, hvE, hone.1, hone.2, Nat.add_assoc])
    | (refine V_skip ?_; simp only [RK_seq, RK_seq_ret, RK_seq_exit, RK_blk, RK_blk_ret, RK_blk_exit, RK_loop, RK_loop_ret, RK_loop_exit, RK_done])
    | (refine ⟨?_, by omega⟩)
    | (intro hc <;> (try (exfalso; omega)))
    | fail)
      refine CallP.retFam [(M + 19, .vec 3 1 (intR vs)), (5, .vec 3 1 (intR (nats level)))] [(M + 16, .box [.ptr 0 0]), (M + 17, .box [.u (.int .i64 (a - below vs h - (os.take k).sum))]), (M + 18, .box [.u (.int .i64 d)]), (0, .box [.u (lists B), .vec 1 n, .vec 2 n]), (1, .vec 3 1 (intR (lst n fun i => Mf i - pf level ms i - pf (level.take k) (os.take k) i))), (2, .vec 22 1 (idR 16 n n))] [(M + 16, .box [.ptr 0 0]), (M + 17, .box [.u (.int .i64 (a - below vs h - (os.take k).sum - 1))]), (M + 18, .box [.u (.int .i64 d)]), (0, .box [.u (lists B), .vec 1 n, .vec 2 n]), (1, .vec 3 1 (intR (lst n fun i => Mf i - pf level ms i - pf (level.take (k + 1)) (os.take (k + 1)) i))), (2, .vec 22 1 (idR 16 n n))] 16 v (rowsOb 3 n (fun i j => if j = d then P i d + (pf level ms i + pf (level.take k) (os.take k) i) else P i j) n) _ (.vec 3 1 (intR (lst n fun j => if j = d then P v d + (pf level ms v + pf (level.take (k + 1)) (os.take (k + 1)) v) else P v j))) hcall (rowsOb_get _ _ _ hv) (fun j => rfl) (by simp [rowsOb_len, hMk, hnM]) (by simp [rowsOb_len, hMk, hnM]) (by simp [rowsOb_len, hMk, hnM]) (by rfl) (by first | assumption | simp) (by rfl) (by simp) ?_
      rintro r o1 nx' hnx ⟨rfl, rfl, rfl⟩
      refine ⟨rfl, ?_⟩
      rw [e3]
      have hle : a - below vs h - (os.take k).sum - 1 = a - below vs h - (os.take (k + 1)).sum := by omega
      simp [hle]
      repeat' (first
    | (refine H_cons ?_; simp [hle])
    | (refine H_nil ?_; simp [hle])
    | (refine ⟨by omega, ?_⟩)
    | (refine V_sregion ?_; simp [hle])
    | fail)
      refine LoopW.next ⟨k + 1, by omega⟩ (by simp; omega) ?_
      exact (Wk.cut rfl (by simp [hn, St.lp]) (by simp [wkO, wkO_tail, endsIn_here, endsIn_cons, del_cons, del_fam, St.lp, getK_cons, getK, Ob.under, D.under, under_rowsD, under_entD, pure_intR, under_intR, rowsOb_len, rowsOb_pure, hMk, hnM, idR_under2, Nat.add_assoc]) (by simp [wkU, St.lp, keepE, getK_cons, getK, D.under, pure_intR, under_intR, rowsOb_len, rowsOb_pure, hMk, hnM, idR_under2, Nat.add_assoc]) (by simp [wkE, St.lp, keepE, getK_cons, getK, pure_intR, under_intR, rowsOb_len, rowsOb_pure, hMk, hnM, idR_under2, Nat.add_assoc] <;> (try (intros; simp_all; done)) <;> (try (intros; omega)) <;> (try grind)))
    · rw [if_neg hone] at hq
      have hsum : (os.take (k + 1)).sum = (os.take k).sum := by rw [take_snoc hq]; simp
      have hsn : ∀ i, pf (level.take (k + 1)) (os.take (k + 1)) i = pf (level.take k) (os.take k) i := fun i => by
        rw [take_snoc hx, take_snoc hq, pf_snoc _ _ _ _ _ (by simp [hol])]; simp
      repeat' (first
    | (refine H_cons ?_; simp [intR_len, intR_getE, hlt, hxE, hvl, hvE, Nat.add_assoc])
    | (refine H_nil ?_; simp [intR_len, intR_getE, hlt, hxE, hvl, hvE, Nat.add_assoc])
    | (refine ⟨by omega, ?_⟩)
    | (refine V_sseq ?_; simp [intR_len, intR_getE, hlt, hxE, hvl, hvE, Nat.add_assoc])
    | (refine V_scond ?_; simp [intR_len, intR_getE, hlt, hxE, hvl, hvE, Nat.add_assoc])
    | (refine V_sregion ?_; simp [intR_len, intR_getE, hlt, hxE, hvl, hvE, Nat.add_assoc])
    | (refine V_skip ?_; simp only [RK_seq, RK_seq_ret, RK_seq_exit, RK_blk, RK_blk_ret, RK_blk_exit, RK_loop, RK_loop_ret, RK_loop_exit, RK_done])
    | (refine ⟨fun hc => ?_, fun hc => ?_⟩ <;> (try (exfalso; omega)))
    | (intro hc <;> (try (exfalso; omega)))
    | fail)
      all_goals
        refine LoopW.next ⟨k + 1, by omega⟩ (by simp; omega) ?_
        exact (Wk.cut rfl (by simp [hn, St.lp]) (by simp [wkO, wkO_tail, endsIn_here, endsIn_cons, del_cons, del_fam, St.lp, getK_cons, getK, Ob.under, D.under, under_rowsD, under_entD, pure_intR, under_intR, rowsOb_len, rowsOb_pure, hMk, hnM, idR_under2, Nat.add_assoc, hsn, hsum]) (by simp [wkU, St.lp, keepE, getK_cons, getK, D.under, pure_intR, under_intR, rowsOb_len, rowsOb_pure, hMk, hnM, idR_under2, Nat.add_assoc, hsn, hsum]) (by simp [wkE, St.lp, keepE, getK_cons, getK, pure_intR, under_intR, rowsOb_len, rowsOb_pure, hMk, hnM, idR_under2, Nat.add_assoc, hsn, hsum] <;> (try (intros; simp_all; done)) <;> (try (intros; omega)) <;> (try grind)))
  have hge : level.length ≤ k := by simpa using hx
  obtain rfl : k = level.length := by omega
  have hQ : ∀ i, payQ level Mf a i = pf level ms i + pf level os i := fun i => by
    have : payL level Mf a = List.zipWith (· + ·) ms os := by rw [payL, hhh, hvv, paysL, hms, hos]
    rw [payQ, this, pf_add _ _ _ _ (by rw [hml, hol])]
  have hL : payLeft level Mf a = a - below vs h - os.sum := by
    have : payL level Mf a = List.zipWith (· + ·) ms os := by rw [payL, hhh, hvv, paysL, hms, hos]
    rw [payLeft, this, zip_sum _ _ (by rw [hml, hol]), show ms.sum = below vs h by rw [hms]; rfl]
    omega
  have hMQ : ∀ i, Mf i - (pf level ms i + pf level os i) = Mf i - pf level ms i - pf level os i := fun i => by omega
  simp only [hQ, hL, hMQ]
  rw [List.take_of_length_le (l := os) (by omega), List.take_length]
  repeat' (first
    | (refine H_cons ?_; simp [intR_len, Nat.add_assoc])
    | (refine H_nil ?_; simp [intR_len, Nat.add_assoc])
    | (refine V_sseq ?_; simp [intR_len, Nat.add_assoc])
    | (refine V_ret ?_; simp only [RK_seq, RK_seq_ret, RK_seq_exit, RK_blk, RK_blk_ret, RK_blk_exit, RK_loop, RK_loop_ret, RK_loop_exit, RK_done])
    | (refine V_exit ?_; simp [RK_seq, RK_seq_ret, RK_seq_exit, RK_blk, RK_blk_ret, RK_blk_exit, RK_loop, RK_loop_ret, RK_loop_exit, RK_done])
    | fail)
  refine EndW.wk { n := Try.f22.ntmps, env := [(8, .u (.int .i64 (a - below vs h - os.sum)))], obs := (0, .box [.u (lists B), .vec 1 n, .vec 2 n]) :: (1, .vec 3 1 (intR (lst n fun i => Mf i - pf level ms i - pf level os i))) :: (2, .vec 22 1 (idR 16 n n)) :: (5, .vec 3 1 (intR (nats level))) :: fam 16 (rowsOb 3 n (fun i j => if j = d then P i d + (pf level ms i + pf level os i) else P i j) n), next := M + 20 }
    (Wk.cut rfl (by simp [hn, St.lp]) (by simp [wkO, wkO_tail, endsIn_here, endsIn_cons, del_cons, del_fam, St.lp, getK_cons, getK, Ob.under, D.under, under_rowsD, under_entD, pure_intR, under_intR, rowsOb_len, rowsOb_pure, hMk, hnM, idR_under2, Nat.add_assoc]) (by simp [wkU, St.lp, keepE, getK_cons, getK, D.under, pure_intR, under_intR, rowsOb_len, rowsOb_pure, hMk, hnM, idR_under2, Nat.add_assoc]) (by simp [wkE, St.lp, keepE, getK_cons, getK, pure_intR, under_intR, rowsOb_len, rowsOb_pure, hMk, hnM, idR_under2, Nat.add_assoc] <;> (try (intros; simp_all; done)) <;> (try (intros; omega)) <;> (try grind))) (EndW.here ?_)
  (first | (refine EndOK.fin (.inr rfl) ?_) | (refine EndOK.fin (.inl rfl) ?_)); simp [resD, oneOrTup, Try.results22]
  exact FinOK.here (by simp) ⟨rfl, rfl⟩
end Go.Proofs.Ytjmddlekokodfaa
