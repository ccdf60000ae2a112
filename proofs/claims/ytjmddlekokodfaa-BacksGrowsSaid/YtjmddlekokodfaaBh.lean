/- Layer 26: the reference: a level pays: the walk. -/
import Derived.Test.YtjmddlekokodfaaBf
set_option linter.all false
set_option maxRecDepth 100000
set_option maxHeartbeats 8000000
set_option linter.all false
namespace Go.Proofs.Ytjmddlekokodfaa
open Go Go.VL
theorem meansOf_lst {n : Nat} {Mf : Nat → Int} {level : List Nat} (h : ∀ i ∈ level, i < n) : meansOf (lst n Mf) level = vsOf level Mf := List.map_congr_left fun i hi => by simp [List.getD_eq_getElem?_getD, lst_get Mf (h i hi)]
theorem payL_bounds {n : Nat} {M : Nat → Int} (h : OkM n M) {level : List Nat} (hl : ∀ i ∈ level, i < n) {a : Int} (ha : 0 ≤ a) : (hgt (vsOf level M) a, a - below (vsOf level M) (hgt (vsOf level M) a)) = (hgt (vsOf level M) a, a - below (vsOf level M) (hgt (vsOf level M) a)) := rfl
attribute [local simp] hcons hstep evPure opd uOf putOK St.put St.at getK binD binI binS binB nilD aggD eqUs cmpK lookD lookR rangeD nextD entryD keyD valU keyU lookK mkV entD_nil lookK_entD updK_entD1 updK_entD2 updK_entD3 allUE allUE_entD makeMapD mapUpdD mapEff updK valM Key.kk shiftI arith unD convD pickD loadD cellsAt fieldAddrD fieldD indexAddrD indexD sliceD cutD lenD minmaxD nilCheckD buildD fillD cellsD isOne ones setAll mkAgg allU allocD boxD storeD St.add buildSliceD appendD rowsOf makeD setOb getK_setOb getK_del getK_cons stripL strip guardTmp entry chunks zcells valD argsV argsW argW argU1 argU0 argsU0 argsU1 calleeOf scalarD scalarU delAll effD St.effS RK_seq RK_seq_ret RK_seq_exit RK_blk RK_blk_ret RK_blk_exit RK_loop RK_loop_ret RK_loop_exit RK_done vs_seq vs_block vs_skip vs_label vs_exit vs_ret vs_cond vs_region vs_loop vs_draw vs_range vs_scope applyW mkD rdIds lentIds callOf calleeOf freeOp D.ids Op.operands Call.operands isEffOp IntKind.bits allU2 allU2_append List.take_of_length_le List.range_succ
attribute [local irreducible] V G H HD HD2 RunK Eff CallP CallV EndOK Fun Ret FinOK LoopI LoopW EndW
theorem rpay_ret (n M d : Nat) (Mf : Nat → Int) (P : Nat → Nat → Int) (level : List Nat) (a : Int) (hn60 : n ≤ 60) (hnM : n ≤ M) (hd : d < n) (hM : OkM n Mf) (hP : ∀ i, i < n → 0 ≤ P i d ∧ P i d ≤ maxC * 500) (hlv : ∀ i ∈ level, i < n) (hnd : level.Nodup) (ha : 0 ≤ a ∧ a ≤ maxC) :
    Ret Try.prog 23 [.u (.int .i64 a), .u (ints (nats level)), .vec 1 n, .vec 2 n, .u (.int .i64 d)]
    ((1, .vec 3 1 (intR (lst n Mf))) :: (2, .vec 22 1 (idR 16 n n)) :: fam 16 (rowsOb 3 n P n)) (M + 16)
    fun r obs nx' => r = .u (.int .i64 (payLeft level Mf a)) ∧ nx' = M + 16 ∧
      obs = (1, .vec 3 1 (intR (lst n fun i => Mf i - payQ level Mf a i))) :: (2, .vec 22 1 (idR 16 n n)) :: fam 16 (rowsOb 3 n (fun i j => if j = d then P i d + payQ level Mf a i else P i j) n) := by
  have hMk : ∀ k, n ≤ M + k := fun k => by omega
  have hll : level.length ≤ n := seen_len hnd hlv
  have hvs := vs_ok hM hlv
  have hIs := hgt_ok hvs ha.1
  have hmo := meansOf_lst (Mf := Mf) hlv
  have hbf : ∀ m, 0 ≤ m → m ≤ maxC → Fun Try.prog 29 [.u (ints (nats level)), .u (ints (lst n Mf)), .u (.int .i64 m)] (· = .u (.int .i64 (below (vsOf level Mf) m))) := fun m h0 h1 => by
    have := below_fun level (lst n Mf) m (by omega) (by rw [lst_len]; exact hlv) (fun v hv => by obtain ⟨i, hi, rfl⟩ := lst_mem hv; exact ⟨hM.lo i hi, hM.hi i hi⟩) h0 h1
    rw [hmo] at this
    exact this
  have hvd : vsOf level Mf = level.map Mf := rfl
  have hvl : (vsOf level Mf).length = level.length := by simp [vsOf]
  have hbb : ∀ h, 0 ≤ h → 0 ≤ below (vsOf level Mf) h := fun h hh => below_nonneg (fun v hv => (hvs v hv).1) hh
  have hb0 : below (vsOf level Mf) 0 = 0 := by
    have h1 := hbb 0 (Int.le_refl 0)
    have h2 := below_none (vs := vsOf level Mf) (h := 0) (fun v hv => (hvs v hv).1)
    simpa using h2
  have hbs := fun h => below_le_sum (vs := vsOf level Mf) (h := h)
  have hsl := sum_le (fun v hv => (hvs v hv).2)
  rw [hvl] at hsl
  have hsl2 : (level.length : Int) * maxC ≤ 60 * maxC := Int.mul_le_mul_of_nonneg_right (by omega) (by simp [maxC])
  (refine Ret.of_bodyW Try.func23 rfl (by simp) fun Γ hn => ?_); simp only [entry, List.zipIdx_cons, List.zipIdx_nil, List.map_cons, List.map_nil, Nat.zero_add, Try.ntmps23]
  repeat' (first
    | (refine H_cons ?_; simp)
    | (refine H_nil ?_; simp)
    | (refine V_sseq ?_; simp)
    | fail)
  refine V_loopF (α := { s : Int × Int // 0 ≤ s.1 ∧ s.1 ≤ s.2 ∧ s.2 ≤ maxC ∧ below (vsOf level Mf) s.1 ≤ a ∧ (s.2 = maxC ∨ a < below (vsOf level Mf) (s.2 + 1)) }) [0, 1, 2, 3, 4] (fun s => [(11, .u (.int .i64 s.1.1)), (12, .u (.int .i64 s.1.2))]) (fun s => (s.1.2 - s.1.1).toNat) ⟨(0, maxC), by omega, by simp [maxC], by omega, by rw [hb0]; exact ha.1, .inl rfl⟩ ?_ ?_
  · exact (Wk.cut rfl (by simp [hn, St.lp]) (by simp [wkO, wkO_tail, endsIn_here, endsIn_cons, del_cons, del_fam, St.lp, getK_cons, getK, Ob.under, D.under, under_rowsD, under_entD, pure_intR, under_intR, rowsOb_len, rowsOb_pure, hMk, hnM, idR_under2, Nat.add_assoc, maxC]) (by simp [wkU, St.lp, keepE, getK_cons, getK, D.under, pure_intR, under_intR, rowsOb_len, rowsOb_pure, hMk, hnM, idR_under2, Nat.add_assoc, maxC]) (by simp [wkE, St.lp, keepE, getK_cons, getK, pure_intR, under_intR, rowsOb_len, rowsOb_pure, hMk, hnM, idR_under2, Nat.add_assoc, maxC] <;> (try (intros; simp_all; done)) <;> (try (intros; omega)) <;> (try grind)))
  rintro ⟨⟨lo, hi⟩, s0, s1, s2, s3, s4⟩
  simp only at s0 s1 s2 s3 s4
  simp [St.lp, St.only, keepE, getK_cons, getK]
  by_cases hlh : lo < hi
  · obtain ⟨mid, hmid⟩ : ∃ mid, mid = (lo + hi + 1).tdiv 2 := ⟨_, rfl⟩
    have hmid2 : mid = (lo + hi + 1) / 2 := by rw [hmid]; exact Int.tdiv_eq_ediv_of_nonneg (by omega)
    have hm1 : lo < mid := by omega
    have hm2 : mid ≤ hi := by omega
    have hbm := hbf mid (by omega) (by omega)
    have hbm2 := hbb mid (by omega)
    have hbm3 := hbs mid
    have hmid3 := hmid.symm
    simp only [maxC] at s2 s4 hsl hsl2
    by_cases hc : below (vsOf level Mf) mid ≤ a
    · repeat' (first
    | (refine H_cons ?_; simp [hlh, hmid3, intR_all, lst_len, intR_len, hc])
    | (refine H_nil ?_; simp [hlh, hmid3, intR_all, lst_len, intR_len, hc])
    | (refine ⟨by omega, ?_⟩)
    | (refine V_sseq ?_; simp [hlh, hmid3, intR_all, lst_len, intR_len, hc])
    | (refine V_scond ?_; simp [hlh, hmid3, intR_all, lst_len, intR_len, hc])
    | (refine V_sblock ?_; simp [hlh, hmid3, intR_all, lst_len, intR_len, hc])
    | (refine V_sregion ?_; simp [hlh, hmid3, intR_all, lst_len, intR_len, hc])
    | (refine V_skip ?_; simp only [RK_seq, RK_seq_ret, RK_seq_exit, RK_blk, RK_blk_ret, RK_blk_exit, RK_loop, RK_loop_ret, RK_loop_exit, RK_done])
    | (refine CallP.fun_ (hbm) (by first | rfl | fail) (by first | assumption | (simp; done) | fail) (by first | (simp [hlh, hmid3, intR_all, lst_len, intR_len, hc]; done) | (simp [hlh, hmid3, intR_all, lst_len, intR_len, hc]; rfl) | fail) (by first | (simp; done) | fail) (fun d hd => ?_); subst hd; (try simp [hlh, hmid3, intR_all, lst_len, intR_len, hc]))
    | fail)
      refine LoopW.next ⟨(mid, hi), by simp only; omega, by simp only; omega, by simp only [maxC]; omega, hc, s4⟩ (by simp; omega) ?_
      exact (Wk.cut rfl (by simp [hn, St.lp]) (by simp [wkO, wkO_tail, endsIn_here, endsIn_cons, del_cons, del_fam, St.lp, getK_cons, getK, Ob.under, D.under, under_rowsD, under_entD, pure_intR, under_intR, rowsOb_len, rowsOb_pure, hMk, hnM, idR_under2, Nat.add_assoc]) (by simp [wkU, St.lp, keepE, getK_cons, getK, D.under, pure_intR, under_intR, rowsOb_len, rowsOb_pure, hMk, hnM, idR_under2, Nat.add_assoc]) (by simp [wkE, St.lp, keepE, getK_cons, getK, pure_intR, under_intR, rowsOb_len, rowsOb_pure, hMk, hnM, idR_under2, Nat.add_assoc] <;> (try (intros; simp_all; done)) <;> (try (intros; omega)) <;> (try grind)))
    · repeat' (first
    | (refine H_cons ?_; simp [hlh, hmid3, intR_all, lst_len, intR_len, hc])
    | (refine H_nil ?_; simp [hlh, hmid3, intR_all, lst_len, intR_len, hc])
    | (refine ⟨by omega, ?_⟩)
    | (refine V_sseq ?_; simp [hlh, hmid3, intR_all, lst_len, intR_len, hc])
    | (refine V_scond ?_; simp [hlh, hmid3, intR_all, lst_len, intR_len, hc])
    | (refine V_sblock ?_; simp [hlh, hmid3, intR_all, lst_len, intR_len, hc])
    | (refine V_sregion ?_; simp [hlh, hmid3, intR_all, lst_len, intR_len, hc])
    | (refine V_skip ?_; simp only [RK_seq, RK_seq_ret, RK_seq_exit, RK_blk, RK_blk_ret, RK_blk_exit, RK_loop, RK_loop_ret, RK_loop_exit, RK_done])
    | (refine CallP.fun_ (hbm) (by first | rfl | fail) (by first | assumption | (simp; done) | fail) (by first | (simp [hlh, hmid3, intR_all, lst_len, intR_len, hc]; done) | (simp [hlh, hmid3, intR_all, lst_len, intR_len, hc]; rfl) | fail) (by first | (simp; done) | fail) (fun d hd => ?_); subst hd; (try simp [hlh, hmid3, intR_all, lst_len, intR_len, hc]))
    | fail)
      refine LoopW.next ⟨(lo, mid - 1), s0, by simp only; omega, by simp only [maxC]; omega, s3, .inr (by simp only; rw [show mid - 1 + 1 = mid by omega]; omega)⟩ (by simp; omega) ?_
      exact (Wk.cut rfl (by simp [hn, St.lp]) (by simp [wkO, wkO_tail, endsIn_here, endsIn_cons, del_cons, del_fam, St.lp, getK_cons, getK, Ob.under, D.under, under_rowsD, under_entD, pure_intR, under_intR, rowsOb_len, rowsOb_pure, hMk, hnM, idR_under2, Nat.add_assoc]) (by simp [wkU, St.lp, keepE, getK_cons, getK, D.under, pure_intR, under_intR, rowsOb_len, rowsOb_pure, hMk, hnM, idR_under2, Nat.add_assoc]) (by simp [wkE, St.lp, keepE, getK_cons, getK, pure_intR, under_intR, rowsOb_len, rowsOb_pure, hMk, hnM, idR_under2, Nat.add_assoc] <;> (try (intros; simp_all; done)) <;> (try (intros; omega)) <;> (try grind)))
  obtain rfl : lo = hi := by omega
  have hh : hgt (vsOf level Mf) a = lo := IsH.unique hIs ⟨s0, s2, s3, s4⟩
  have hbl := hbf lo s0 s2
  have hbl2 := hbb lo s0
  obtain ⟨vs, hvv⟩ : ∃ vs, vs = vsOf level Mf := ⟨_, rfl⟩
  rw [← hvv] at hvs hIs hbl hbl2 s3 s4 hvd hvl hh hsl hbs
  obtain ⟨h, hhe⟩ : ∃ h, h = lo := ⟨_, rfl⟩
  rw [← hhe] at hh hbl hbl2 s0 s2 s3 s4
  have hmk : ∀ k v, level[k]? = some v → vs[k]? = some (Mf v) := fun k v hx => by rw [hvd, List.getElem?_map, hx]; rfl
  obtain ⟨os, hos⟩ : ∃ os, os = ones1 vs h (a - below vs h) := ⟨_, rfl⟩
  obtain ⟨ps, hps⟩ : ∃ ps, ps = payL level Mf a := ⟨_, rfl⟩
  have hps2 : ps = List.zipWith (· + ·) (vs.map fun v => min v h) os := by rw [hps, payL, ← hvv, hh, paysL, ← hos]
  have hm0 : 0 ≤ a - below vs h := by omega
  have hol : os.length = level.length := by rw [hos, ones1_len, hvl]
  have hpl : ps.length = level.length := by rw [hps2, List.length_zipWith, List.length_map, hvl, hol]; omega
  have hot : ∀ k, os.take k = ones1 (vs.take k) h (a - below vs h) := fun k => by rw [hos, ones1_take]
  have hos1 : ∀ k, 0 ≤ (os.take k).sum ∧ (os.take k).sum ≤ a - below vs h := fun k => by
    rw [hot, ones1_sum _ _ _ hm0]
    have := over_nonneg (vs.take k) h
    omega
  have hok : ∀ k v, level[k]? = some v → os[k]? = some (if h < Mf v ∧ 0 < a - below vs h - (os.take k).sum then 1 else 0) := fun k v hx => by
    rw [hot, hos]
    exact ones1_get vs h _ k (Mf v) hm0 (hmk k v hx)
  have hpk : ∀ k v o, level[k]? = some v → os[k]? = some o → ps[k]? = some (min (Mf v) h + o) := fun k v o hx ho => by
    rw [hps2, List.getElem?_zipWith, List.getElem?_map, hmk k v hx, ho]; rfl
  have hnot : ∀ k v, level[k]? = some v → v ∉ level.take k := fun k v hx hm => by
    obtain ⟨j, hj, e⟩ := List.mem_iff_getElem.1 hm
    rw [List.length_take] at hj
    rw [List.getElem_take] at e
    have hlt : k < level.length := (List.getElem?_eq_some_iff.1 hx).1
    exact (List.pairwise_iff_getElem.1 hnd j k (by omega) hlt (by omega)) (by rw [e, (List.getElem?_eq_some_iff.1 hx).2])
  have hnlt : ¬ lo < lo := by omega
  have ha2 : a ≤ 1099511627776 := ha.2
  subst hhe
  repeat' (first
    | (refine H_cons ?_; simp [hnlt, intR_all, lst_len, intR_len])
    | (refine H_nil ?_; simp [hnlt, intR_all, lst_len, intR_len])
    | (refine ⟨by omega, ?_⟩)
    | (refine V_sseq ?_; simp [hnlt, intR_all, lst_len, intR_len])
    | (refine V_scond ?_; simp [hnlt, intR_all, lst_len, intR_len])
    | (refine V_sblock ?_; simp [hnlt, intR_all, lst_len, intR_len])
    | (refine V_exit ?_; simp [RK_seq, RK_seq_ret, RK_seq_exit, RK_blk, RK_blk_ret, RK_blk_exit, RK_loop, RK_loop_ret, RK_loop_exit, RK_done])
    | (refine CallP.fun_ (hbl) (by first | rfl | fail) (by first | assumption | (simp; done) | fail) (by first | (simp [hnlt, intR_all, lst_len, intR_len]; done) | (simp [hnlt, intR_all, lst_len, intR_len]; rfl) | fail) (by first | (simp; done) | fail) (fun d hd => ?_); subst hd; (try simp [hnlt, intR_all, lst_len, intR_len]))
    | fail)
  refine V_loopO (α := { k : Nat // k ≤ level.length }) [1, 2, 3, 4, 11] (fun k => [(14, .u (.int .i64 (a - below vs h - (os.take k.1).sum))), (15, .u (.int .i64 (a - below vs h - (os.take k.1).sum))), (16, .u (.int .i64 k.1))])
    (fun k => (1, .vec 3 1 (intR (lst n fun i => Mf i - pf (level.take k.1) (ps.take k.1) i))) :: (2, .vec 22 1 (idR 16 n n)) :: fam 16 (rowsOb 3 n (fun i j => if j = d then P i d + pf (level.take k.1) (ps.take k.1) i else P i j) n)) (M + 16) (fun k => level.length - k.1) ⟨0, by omega⟩ ?_ ?_
  · have h0 : rowsOb 3 n (fun i j => if j = d then P i d else P i j) n = rowsOb 3 n P n := rowsOb_ext fun i hi j hj => by
      split
      · rename_i e; rw [e]
      · rfl
    exact (Wk.cut rfl (by simp [hn, St.lp]) (by simp [wkO, wkO_tail, endsIn_here, endsIn_cons, del_cons, del_fam, St.lp, getK_cons, getK, Ob.under, D.under, under_rowsD, under_entD, pure_intR, under_intR, rowsOb_len, rowsOb_pure, hMk, hnM, idR_under2, Nat.add_assoc, pf, h0]) (by simp [wkU, St.lp, keepE, getK_cons, getK, D.under, pure_intR, under_intR, rowsOb_len, rowsOb_pure, hMk, hnM, idR_under2, Nat.add_assoc, pf, h0]) (by simp [wkE, St.lp, keepE, getK_cons, getK, pure_intR, under_intR, rowsOb_len, rowsOb_pure, hMk, hnM, idR_under2, Nat.add_assoc, pf, h0] <;> (try (intros; simp_all; done)) <;> (try (intros; omega)) <;> (try grind)))
  rintro ⟨k, hk⟩
  simp [St.lp, St.only, keepE, getK_cons, getK]
  rcases hx : level[k]? with _ | v
  case some =>
    have hlt : k < level.length := (List.getElem?_eq_some_iff.1 hx).1
    have hv := hlv v (List.mem_of_getElem? hx)
    have hPv := hP v hv
    have hPv2 : P v d ≤ 549755813888000 := by have := hPv.2; simp only [maxC] at this; omega
    have hMv0 := hM.lo v hv
    have hMv1 : Mf v ≤ 1099511627776 := hM.hi v hv
    have hp0 := pf_out (level.take k) (ps.take k) v (hnot k v hx)
    have hq := hok k v hx
    have hb1 := hos1 k
    have hb2 := hos1 (k + 1)
    have hgm : (lst n fun i => Mf i - pf (level.take k) (ps.take k) i)[v]? = some (Mf v) := by rw [lst_get _ hv, hp0]; simp
    have hgE : ∀ h : v < (lst n fun i => Mf i - pf (level.take k) (ps.take k) i).length, (lst n fun i => Mf i - pf (level.take k) (ps.take k) i)[v]'h = Mf v := fun h => (List.getElem?_eq_some_iff.1 hgm).2
    have hro := rowsOb_get 3 n (fun i j => if j = d then P i d + pf (level.take k) (ps.take k) i else P i j) hv
    have hrd : (lst n fun j => if j = d then P v d + pf (level.take k) (ps.take k) v else P v j)[d]? = some (P v d) := by rw [lst_get _ hd, if_pos rfl, hp0]; simp
    have hrE : ∀ h : d < (lst n fun j => if j = d then P v d + pf (level.take k) (ps.take k) v else P v j).length, (lst n fun j => if j = d then P v d + pf (level.take k) (ps.take k) v else P v j)[d]'h = P v d := fun h => (List.getElem?_eq_some_iff.1 hrd).2
    have hsf : ∀ q, setOb (fam 16 (rowsOb 3 n (fun i j => if j = d then P i d + pf (level.take k) (ps.take k) i else P i j) n)) (v + 16) (.vec 3 1 (intR q)) = fam 16 ((rowsOb 3 n (fun i j => if j = d then P i d + pf (level.take k) (ps.take k) i else P i j) n).set v (.vec 3 1 (intR q))) := fun q => setOb_fam _ _ _ _ (by rw [rowsOb_len]; exact hv)
    have step : ∀ o, os[k]? = some o → (0 ≤ o ∧ o ≤ 1) →
        ((lst n fun i => Mf i - pf (level.take k) (ps.take k) i).set v (Mf v - (min (Mf v) h + o)) = lst n fun i => Mf i - pf (level.take (k + 1)) (ps.take (k + 1)) i) ∧
        (rowsOb 3 n (fun i j => if j = d then P i d + pf (level.take k) (ps.take k) i else P i j) n).set v (.vec 3 1 (intR ((lst n fun j => if j = d then P v d + pf (level.take k) (ps.take k) v else P v j).set d (P v d + (min (Mf v) h + o))))) = rowsOb 3 n (fun i j => if j = d then P i d + pf (level.take (k + 1)) (ps.take (k + 1)) i else P i j) n := fun o ho _ => by
      have hsn : ∀ i, pf (level.take (k + 1)) (ps.take (k + 1)) i = pf (level.take k) (ps.take k) i + if i = v then min (Mf v) h + o else 0 := fun i => by
        rw [take_snoc hx, take_snoc (hpk k v o hx ho), pf_snoc _ _ _ _ _ (by simp [hpl])]
      constructor
      · rw [lst_set]
        refine lst_ext fun i _ => ?_
        rw [hsn i]
        by_cases hiv : i = v
        · subst hiv; simp [hp0]
        · simp [hiv]
      · rw [lst_set, rowsOb_set]
        refine rowsOb_ext fun i _ j _ => ?_
        by_cases hiv : i = v
        · subst hiv
          simp only [if_true]
          by_cases hj : j = d
          · simp only [if_pos hj]; rw [hsn i]; simp [hp0]
          · simp [if_neg hj]
        · simp only [if_neg hiv]; rw [hsn i, if_neg hiv]; simp
    by_cases hone : h < Mf v ∧ 0 < a - below vs h - (os.take k).sum
    · rw [if_pos hone] at hq
      have hsum : (os.take (k + 1)).sum = (os.take k).sum + 1 := by rw [take_snoc hq]; simp
      obtain ⟨e1, e3⟩ := step 1 hq (by omega)
      have hmin : min (Mf v) h = h := by omega
      rw [hmin] at e1 e3
      have hle : a - below vs h - (os.take k).sum - 1 = a - below vs h - (os.take (k + 1)).sum := by omega
      repeat' (first
    | (refine H_cons ?_; simp [intR_len, intR_getE, intR_set, hx, lst_len, hgE, hv, hd, hmin, hone.1, hone.2, idR_len, idR_getE, getK_fam_add, hro, hrE, hsf, e1, e3, hle, Nat.add_assoc])
    | (refine HD2_val rfl ?_; simp [intR_len, intR_getE, intR_set, hx, lst_len, hgE, hv, hd, hmin, hone.1, hone.2, idR_len, idR_getE, getK_fam_add, hro, hrE, hsf, e1, e3, hle, Nat.add_assoc])
    | (refine HD2_chg rfl ?_; simp [intR_len, intR_getE, intR_set, hx, lst_len, hgE, hv, hd, hmin, hone.1, hone.2, idR_len, idR_getE, getK_fam_add, hro, hrE, hsf, e1, e3, hle, Nat.add_assoc])
    | (refine H_nil ?_; simp [intR_len, intR_getE, intR_set, hx, lst_len, hgE, hv, hd, hmin, hone.1, hone.2, idR_len, idR_getE, getK_fam_add, hro, hrE, hsf, e1, e3, hle, Nat.add_assoc])
    | (refine ⟨by omega, ?_⟩)
    | (refine V_sseq ?_; simp [intR_len, intR_getE, intR_set, hx, lst_len, hgE, hv, hd, hmin, hone.1, hone.2, idR_len, idR_getE, getK_fam_add, hro, hrE, hsf, e1, e3, hle, Nat.add_assoc])
    | (refine V_scond ?_; simp [intR_len, intR_getE, intR_set, hx, lst_len, hgE, hv, hd, hmin, hone.1, hone.2, idR_len, idR_getE, getK_fam_add, hro, hrE, hsf, e1, e3, hle, Nat.add_assoc])
    | (refine HD2_nil (hC _ (by kernel_rfl)) (hk _ ?_); clear hC hk C k; simp only [RK_seq, RK_seq_ret, RK_seq_exit, RK_blk, RK_blk_ret, RK_blk_exit, RK_loop, RK_loop_ret, RK_loop_exit, RK_done])
    | (refine V_drawE rfl (by kernel_rfl) (by kernel_rfl) (by simp [hn]) fun C k hC hk => ?_; simp [intR_len, intR_getE, intR_set, hx, lst_len, hgE, hv, hd, hmin, hone.1, hone.2, idR_len, idR_getE, getK_fam_add, hro, hrE, hsf, e1, e3, hle, Nat.add_assoc])
    | (refine V_sregion ?_; simp [intR_len, intR_getE, intR_set, hx, lst_len, hgE, hv, hd, hmin, hone.1, hone.2, idR_len, idR_getE, getK_fam_add, hro, hrE, hsf, e1, e3, hle, Nat.add_assoc])
    | (refine V_skip ?_; simp only [RK_seq, RK_seq_ret, RK_seq_exit, RK_blk, RK_blk_ret, RK_blk_exit, RK_loop, RK_loop_ret, RK_loop_exit, RK_done])
    | (refine ⟨?_, by omega⟩)
    | (intro hc <;> (try (exfalso; omega)))
    | fail)
      refine LoopW.next ⟨k + 1, by omega⟩ (by simp; omega) ?_
      exact (Wk.cut rfl (by simp [hn, St.lp]) (by simp [wkO, wkO_tail, endsIn_here, endsIn_cons, del_cons, del_fam, St.lp, getK_cons, getK, Ob.under, D.under, under_rowsD, under_entD, pure_intR, under_intR, rowsOb_len, rowsOb_pure, hMk, hnM, idR_under2, Nat.add_assoc, hle]) (by simp [wkU, St.lp, keepE, getK_cons, getK, D.under, pure_intR, under_intR, rowsOb_len, rowsOb_pure, hMk, hnM, idR_under2, Nat.add_assoc, hle]) (by simp [wkE, St.lp, keepE, getK_cons, getK, pure_intR, under_intR, rowsOb_len, rowsOb_pure, hMk, hnM, idR_under2, Nat.add_assoc, hle] <;> (try (intros; simp_all; done)) <;> (try (intros; omega)) <;> (try grind)))
    · rw [if_neg hone] at hq
      have hsum : (os.take (k + 1)).sum = (os.take k).sum := by rw [take_snoc hq]; simp
      obtain ⟨e1, e3⟩ := step 0 hq (by omega)
      rw [Int.add_zero] at e1 e3
      repeat' (first
    | (refine H_cons ?_; simp [intR_len, intR_getE, intR_set, hx, lst_len, hgE, hv, hd, idR_len, idR_getE, getK_fam_add, hro, hrE, hsf, e1, e3, Nat.add_assoc])
    | (refine HD2_val rfl ?_; simp [intR_len, intR_getE, intR_set, hx, lst_len, hgE, hv, hd, idR_len, idR_getE, getK_fam_add, hro, hrE, hsf, e1, e3, Nat.add_assoc])
    | (refine HD2_chg rfl ?_; simp [intR_len, intR_getE, intR_set, hx, lst_len, hgE, hv, hd, idR_len, idR_getE, getK_fam_add, hro, hrE, hsf, e1, e3, Nat.add_assoc])
    | (refine H_nil ?_; simp [intR_len, intR_getE, intR_set, hx, lst_len, hgE, hv, hd, idR_len, idR_getE, getK_fam_add, hro, hrE, hsf, e1, e3, Nat.add_assoc])
    | (refine ⟨by omega, ?_⟩)
    | (refine V_sseq ?_; simp [intR_len, intR_getE, intR_set, hx, lst_len, hgE, hv, hd, idR_len, idR_getE, getK_fam_add, hro, hrE, hsf, e1, e3, Nat.add_assoc])
    | (refine V_scond ?_; simp [intR_len, intR_getE, intR_set, hx, lst_len, hgE, hv, hd, idR_len, idR_getE, getK_fam_add, hro, hrE, hsf, e1, e3, Nat.add_assoc])
    | (refine HD2_nil (hC _ (by kernel_rfl)) (hk _ ?_); clear hC hk C k; simp only [RK_seq, RK_seq_ret, RK_seq_exit, RK_blk, RK_blk_ret, RK_blk_exit, RK_loop, RK_loop_ret, RK_loop_exit, RK_done])
    | (refine V_drawE rfl (by kernel_rfl) (by kernel_rfl) (by simp [hn]) fun C k hC hk => ?_; simp [intR_len, intR_getE, intR_set, hx, lst_len, hgE, hv, hd, idR_len, idR_getE, getK_fam_add, hro, hrE, hsf, e1, e3, Nat.add_assoc])
    | (refine V_sregion ?_; simp [intR_len, intR_getE, intR_set, hx, lst_len, hgE, hv, hd, idR_len, idR_getE, getK_fam_add, hro, hrE, hsf, e1, e3, Nat.add_assoc])
    | (refine V_skip ?_; simp only [RK_seq, RK_seq_ret, RK_seq_exit, RK_blk, RK_blk_ret, RK_blk_exit, RK_loop, RK_loop_ret, RK_loop_exit, RK_done])
    | (refine ⟨?_, by omega⟩)
    | (refine ⟨fun hc => ?_, fun hc => ?_⟩ <;> (try (exfalso; omega)))
    | (intro hc <;> (try (exfalso; omega)))
    | fail)
      all_goals
        refine LoopW.next ⟨k + 1, by omega⟩ (by simp; omega) ?_
        exact (Wk.cut rfl (by simp [hn, St.lp]) (by simp [wkO, wkO_tail, endsIn_here, endsIn_cons, del_cons, del_fam, St.lp, getK_cons, getK, Ob.under, D.under, under_rowsD, under_entD, pure_intR, under_intR, rowsOb_len, rowsOb_pure, hMk, hnM, idR_under2, Nat.add_assoc, hsum]) (by simp [wkU, St.lp, keepE, getK_cons, getK, D.under, pure_intR, under_intR, rowsOb_len, rowsOb_pure, hMk, hnM, idR_under2, Nat.add_assoc, hsum]) (by simp [wkE, St.lp, keepE, getK_cons, getK, pure_intR, under_intR, rowsOb_len, rowsOb_pure, hMk, hnM, idR_under2, Nat.add_assoc, hsum] <;> (try (intros; simp_all; done)) <;> (try (intros; omega)) <;> (try grind)))
  have hge : level.length ≤ k := by simpa using hx
  obtain rfl : k = level.length := by omega
  have hQ : ∀ i, payQ level Mf a i = pf level ps i := fun i => by rw [payQ, ← hps]
  have hL : payLeft level Mf a = a - below vs h - os.sum := by
    rw [payLeft, ← hps, hps2, zip_sum _ _ (by rw [List.length_map, hvl, hol])]
    show a - (below vs h + os.sum) = _
    omega
  simp only [hQ, hL]
  rw [List.take_of_length_le (l := os) (by omega), List.take_of_length_le (l := ps) (by omega), List.take_length]
  repeat' (first
    | (refine H_cons ?_; simp [hx])
    | (refine H_nil ?_; simp [hx])
    | (refine V_sseq ?_; simp [hx])
    | (refine V_scond ?_; simp [hx])
    | (refine V_ret ?_; simp only [RK_seq, RK_seq_ret, RK_seq_exit, RK_blk, RK_blk_ret, RK_blk_exit, RK_loop, RK_loop_ret, RK_loop_exit, RK_done])
    | (refine V_exit ?_; simp [RK_seq, RK_seq_ret, RK_seq_exit, RK_blk, RK_blk_ret, RK_blk_exit, RK_loop, RK_loop_ret, RK_loop_exit, RK_done])
    | fail)
  refine EndW.here ?_
  (first | (refine EndOK.fin (.inr rfl) ?_) | (refine EndOK.fin (.inl rfl) ?_)); simp [resD, oneOrTup, Try.results23]
  exact FinOK.here (by simp) ⟨rfl, rfl, rfl⟩
end Go.Proofs.Ytjmddlekokodfaa
