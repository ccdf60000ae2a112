/- Layer 23: the law on what is drawn: the walk. -/
import Derived.Test.YtmebfcehkfaiaaaTo
set_option linter.all false
set_option maxRecDepth 100000
set_option maxHeartbeats 8000000
set_option linter.all false
namespace Go.Proofs.Ytmebfcehkfaiaaa
open Go Go.VL
def boolR (l : List Bool) : List (List D) := l.map fun b => [D.u (.bool b)]
theorem boolR_len (l : List Bool) : (boolR l).length = l.length := by simp [boolR]
theorem boolR_getE (l : List Bool) (i : Nat) (h : i < (boolR l).length) : (boolR l)[i] = [D.u (.bool (l[i]'(by simpa [boolR] using h)))] := by simp [boolR]
theorem boolR_set (l : List Bool) (i : Nat) (b : Bool) : (boolR l).set i [D.u (.bool b)] = boolR (l.set i b) := by simp [boolR, List.map_set]
theorem boolR_rep (n : Nat) : List.replicate n [D.u (.bool false)] = boolR (List.replicate n false) := by simp [boolR]
theorem pure_boolR (l : List Bool) : pureRows (boolR l) := by
  induction l with
  | nil => simp [boolR, pureRows]
  | cons a l ih => simp only [boolR] at ih; simp [boolR, pureRows, pureRow, ih]
theorem under_boolR (n : Nat) (l : List Bool) : (∀ x ∈ boolR l, ∀ y ∈ x, D.under n y = true) ↔ True := by
  refine ⟨fun _ => trivial, fun _ x hx y hy => ?_⟩
  obtain ⟨b, _, rfl⟩ := List.mem_map.1 hx
  simp at hy
  subst hy
  simp [D.under]
def seenL (N : Nat) (more : List Int) (q : Nat) : List Bool := (List.range N).map fun (i : Nat) => decide ((i : Int) ∈ more.take q)
theorem seenL_len (N : Nat) (more : List Int) (q : Nat) : (seenL N more q).length = N := by simp [seenL]
theorem seenL_zero (N : Nat) (more : List Int) : seenL N more 0 = List.replicate N false := by
  apply List.ext_getElem?
  intro j
  by_cases hj : j < N <;> simp [seenL, hj]
theorem seenL_get {N : Nat} {more : List Int} {q Z : Nat} (hZ : Z < N) (hx : more[q]? = some (Z : Int)) (hd : more.Nodup) : (seenL N more q)[Z]? = some false := by
  have : ¬ (Z : Int) ∈ more.take q := fun h => by
    obtain ⟨k, hk, e⟩ := List.mem_iff_getElem.1 h
    rw [List.length_take] at hk
    rw [List.getElem_take] at e
    have hk2 : more[k]? = some (Z : Int) := by rw [List.getElem?_eq_getElem (by omega), e]
    exact not_nodup hx hk2 (by omega) hd
  simp [seenL, hZ, this]
theorem seenL_set {N : Nat} {more : List Int} {q Z : Nat} (hZ : Z < N) (hx : more[q]? = some (Z : Int)) : (seenL N more q).set Z true = seenL N more (q + 1) := by
  apply List.ext_getElem?
  intro j
  simp only [seenL, List.getElem?_set, List.length_map, List.length_range, List.getElem?_map]
  by_cases hj : Z = j
  · subst hj
    simp [hZ, take_snoc hx]
  · rw [if_neg hj]
    by_cases hj2 : j < N
    · rw [List.getElem?_range hj2]
      have : ¬ (j : Int) = (Z : Int) := by omega
      simp [take_snoc hx, this]
    · rw [List.getElem?_eq_none (by simpa using hj2)]; rfl
theorem orderS_mem {l : List Int} {kind seed : Int} (hr : rightS l = true) (h0 : 0 ≤ kind) (h3 : kind < 3) {x : Int} (hx : x ∈ l) : x ∈ orderS l kind seed := by
  have hv : validB l kind = true := by rw [validB_eq]; simp [hr, h0, h3]
  have h60 := rightS_len hr
  unfold orderS
  rw [if_pos hv]
  split
  · rw [drawS_full seed (by omega)]
    obtain ⟨i, hi, e⟩ := List.mem_iff_getElem.1 hx
    refine List.mem_map.2 ⟨(i : Int), (drawG_perm seed l.length l.length (Nat.le_refl _)).mem_iff.2 (List.mem_map.2 ⟨i, List.mem_range.2 hi, rfl⟩), by simp [hi, e]⟩
  · exact hx
attribute [local simp] hcons hstep evPure opd uOf putOK St.put St.at getK binD binI binS binB nilD aggD eqUs cmpK lookD lookR rangeD nextD entryD keyD valU keyU lookK mkV entD_nil lookK_entD updK_entD1 updK_entD2 updK_entD3 allUE allUE_entD makeMapD mapUpdD mapEff updK valM Key.kk shiftI arith unD convD pickD loadD cellsAt fieldAddrD fieldD indexAddrD indexD sliceD cutD lenD minmaxD nilCheckD buildD fillD cellsD isOne ones setAll mkAgg allU allocD boxD storeD St.add buildSliceD appendD rowsOf makeD setOb getK_setOb getK_del getK_cons stripL strip guardTmp entry chunks zcells valD argsV argsW argW argU1 argU0 argsU0 argsU1 calleeOf scalarD scalarU delAll effD St.effS RK_seq RK_seq_ret RK_seq_exit RK_blk RK_blk_ret RK_blk_exit RK_loop RK_loop_ret RK_loop_exit RK_done vs_seq vs_block vs_skip vs_label vs_exit vs_ret vs_cond vs_region vs_loop vs_draw vs_range vs_scope applyW mkD rdIds lentIds callOf calleeOf freeOp D.ids Op.operands Call.operands isEffOp IntKind.bits allU2 allU2_append List.take_of_length_le List.range_succ
attribute [local irreducible] V G H HD HD2 RunK Eff CallP CallV EndOK Fun Ret FinOK LoopI LoopW EndW
theorem drawn_fun (seed n k : Int) (members : List Int) : Fun Try.prog 5 [.u (.int .i64 seed), .u (.int .i64 n), .u (.int .i64 k), .u (ints members)] (· = .u (.bool true)) := by
  have h0 := small_fun
  have h1 := few_fun members
  by_cases hv : n < 0 ∨ 300 < n ∨ k < 0 ∨ n < k
  · (refine Fun.of_body Try.func5 rfl (by simp) fun Γ hn => ?_); simp only [entry, List.zipIdx_cons, List.zipIdx_nil, List.map_cons, List.map_nil, Nat.zero_add, Try.ntmps5]
    repeat' (first
    | (refine H_cons ?_; simp)
    | (refine HD2_val rfl ?_; simp)
    | (refine HD_cons ?_; simp)
    | (refine HD2_chg rfl ?_; simp)
    | (refine H_nil ?_; simp)
    | (refine ⟨by omega, ?_⟩)
    | (refine V_sseq ?_; simp)
    | (refine V_scond ?_; simp)
    | (refine HD2_nil (hC _ (by kernel_rfl)) (hk _ ?_); clear hC hk C k; simp only [RK_seq, RK_seq_ret, RK_seq_exit, RK_blk, RK_blk_ret, RK_blk_exit, RK_loop, RK_loop_ret, RK_loop_exit, RK_done])
    | (refine HD_nil ?_)
    | (refine hk _ ?_; clear hk k; simp only [RK_seq, RK_seq_ret, RK_seq_exit, RK_blk, RK_blk_ret, RK_blk_exit, RK_loop, RK_loop_ret, RK_loop_exit, RK_done])
    | (refine V_drawV rfl (by kernel_rfl) (by kernel_rfl) fun k hk => ?_; simp)
    | (refine V_drawN rfl (by kernel_rfl) (by kernel_rfl) (by simp [hn]) fun C k hC hk => ?_; simp)
    | (refine HD3_val rfl ?_; simp)
    | (refine HD3_put ?_; simp)
    | (refine HD3_chg rfl rfl ?_; simp)
    | (refine HD3_nil (hC _ _ (by kernel_rfl) (by kernel_rfl)) (hk _ ?_); clear hC hk C k; simp only [RK_seq, RK_seq_ret, RK_seq_exit, RK_blk, RK_blk_ret, RK_blk_exit, RK_loop, RK_loop_ret, RK_loop_exit, RK_done]; simp [St.ins, insL, putE, getK_setOb, getK_cons])
    | (refine V_drawE rfl (by kernel_rfl) (by kernel_rfl) (by simp [hn]) fun C k hC hk => ?_; simp)
    | (refine HD_guardU rfl (by simp) ?_; simp)
    | (refine HD_guard rfl (by simp) (fun hc => ?_) (fun hc => ?_) <;> (try simp at hc) <;> (try (exfalso; omega)) <;> (try simp))
    | (refine HD2_guardU rfl (by simp) ?_; simp)
    | (refine HD2_guard rfl (by simp) (fun hc => ?_) (fun hc => ?_) <;> (try simp at hc) <;> (try (exfalso; omega)) <;> (try simp))
    | (refine V_sblock ?_; simp)
    | (refine V_sregion ?_; simp)
    | (refine V_ret ?_; simp only [RK_seq, RK_seq_ret, RK_seq_exit, RK_blk, RK_blk_ret, RK_blk_exit, RK_loop, RK_loop_ret, RK_loop_exit, RK_done])
    | (refine V_skip ?_; simp only [RK_seq, RK_seq_ret, RK_seq_exit, RK_blk, RK_blk_ret, RK_blk_exit, RK_loop, RK_loop_ret, RK_loop_exit, RK_done])
    | (refine V_exit ?_; simp [RK_seq, RK_seq_ret, RK_seq_exit, RK_blk, RK_blk_ret, RK_blk_exit, RK_loop, RK_loop_ret, RK_loop_exit, RK_done])
    | (refine ⟨?_, by omega⟩)
    | (refine ⟨fun hc => ?_, fun hc => ?_⟩ <;> (try (exfalso; omega)))
    | (intro hc <;> (try (exfalso; omega)))
    | (refine CallV.fun_ (h0) (by first | rfl | fail) (by first | assumption | (simp; done) | fail) (by first | (simp; done) | (simp; rfl) | fail) (by first | (simp; done) | fail) ?_ <;> (try simp))
    | (refine CallP.fun_ (h0) (by first | rfl | fail) (by first | assumption | (simp; done) | fail) (by first | (simp; done) | (simp; rfl) | fail) (by first | (simp; done) | fail) (fun d hd => ?_); subst hd; (try simp))
    | (refine CallV.fun_ (h1) (by first | rfl | fail) (by first | assumption | (simp; done) | fail) (by first | (simp; done) | (simp; rfl) | fail) (by first | (simp; done) | fail) ?_ <;> (try simp))
    | (refine CallP.fun_ (h1) (by first | rfl | fail) (by first | assumption | (simp; done) | fail) (by first | (simp; done) | (simp; rfl) | fail) (by first | (simp; done) | fail) (fun d hd => ?_); subst hd; (try simp)))
    all_goals
      (refine EndOK.val (.inr rfl) ?_; simp [resD, oneOrTup, pureD, Try.results5])
  have hn0 : ¬ n < 0 := by omega
  have hn3 : ¬ 300 < n := by omega
  have hk0 : ¬ k < 0 := by omega
  have hkn : ¬ n < k := by omega
  by_cases hm : members.length ≤ 70
  case neg =>
    have hm2 : ¬ (members.length : Int) ≤ 70 := by omega
    (refine Fun.of_body Try.func5 rfl (by simp) fun Γ hn => ?_); simp only [entry, List.zipIdx_cons, List.zipIdx_nil, List.map_cons, List.map_nil, Nat.zero_add, Try.ntmps5]
    repeat' (first
    | (refine H_cons ?_; simp [hm2, hn0, hn3, hk0, hkn])
    | (refine HD2_val rfl ?_; simp [hm2, hn0, hn3, hk0, hkn])
    | (refine HD_cons ?_; simp [hm2, hn0, hn3, hk0, hkn])
    | (refine HD2_chg rfl ?_; simp [hm2, hn0, hn3, hk0, hkn])
    | (refine H_nil ?_; simp [hm2, hn0, hn3, hk0, hkn])
    | (refine ⟨by omega, ?_⟩)
    | (refine V_sseq ?_; simp [hm2, hn0, hn3, hk0, hkn])
    | (refine V_scond ?_; simp [hm2, hn0, hn3, hk0, hkn])
    | (refine HD2_nil (hC _ (by kernel_rfl)) (hk _ ?_); clear hC hk C k; simp only [RK_seq, RK_seq_ret, RK_seq_exit, RK_blk, RK_blk_ret, RK_blk_exit, RK_loop, RK_loop_ret, RK_loop_exit, RK_done])
    | (refine HD_nil ?_)
    | (refine hk _ ?_; clear hk k; simp only [RK_seq, RK_seq_ret, RK_seq_exit, RK_blk, RK_blk_ret, RK_blk_exit, RK_loop, RK_loop_ret, RK_loop_exit, RK_done])
    | (refine V_drawV rfl (by kernel_rfl) (by kernel_rfl) fun k hk => ?_; simp [hm2, hn0, hn3, hk0, hkn])
    | (refine V_drawN rfl (by kernel_rfl) (by kernel_rfl) (by simp [hn]) fun C k hC hk => ?_; simp [hm2, hn0, hn3, hk0, hkn])
    | (refine HD3_val rfl ?_; simp [hm2, hn0, hn3, hk0, hkn])
    | (refine HD3_put ?_; simp [hm2, hn0, hn3, hk0, hkn])
    | (refine HD3_chg rfl rfl ?_; simp [hm2, hn0, hn3, hk0, hkn])
    | (refine HD3_nil (hC _ _ (by kernel_rfl) (by kernel_rfl)) (hk _ ?_); clear hC hk C k; simp only [RK_seq, RK_seq_ret, RK_seq_exit, RK_blk, RK_blk_ret, RK_blk_exit, RK_loop, RK_loop_ret, RK_loop_exit, RK_done]; simp [St.ins, insL, putE, getK_setOb, getK_cons])
    | (refine V_drawE rfl (by kernel_rfl) (by kernel_rfl) (by simp [hn]) fun C k hC hk => ?_; simp [hm2, hn0, hn3, hk0, hkn])
    | (refine HD_guardU rfl (by simp [hm2, hn0, hn3, hk0, hkn]) ?_; simp [hm2, hn0, hn3, hk0, hkn])
    | (refine HD_guard rfl (by simp [hm2, hn0, hn3, hk0, hkn]) (fun hc => ?_) (fun hc => ?_) <;> (try simp [hm2, hn0, hn3, hk0, hkn] at hc) <;> (try (exfalso; omega)) <;> (try simp [hm2, hn0, hn3, hk0, hkn]))
    | (refine HD2_guardU rfl (by simp [hm2, hn0, hn3, hk0, hkn]) ?_; simp [hm2, hn0, hn3, hk0, hkn])
    | (refine HD2_guard rfl (by simp [hm2, hn0, hn3, hk0, hkn]) (fun hc => ?_) (fun hc => ?_) <;> (try simp [hm2, hn0, hn3, hk0, hkn] at hc) <;> (try (exfalso; omega)) <;> (try simp [hm2, hn0, hn3, hk0, hkn]))
    | (refine V_sblock ?_; simp [hm2, hn0, hn3, hk0, hkn])
    | (refine V_sregion ?_; simp [hm2, hn0, hn3, hk0, hkn])
    | (refine V_ret ?_; simp only [RK_seq, RK_seq_ret, RK_seq_exit, RK_blk, RK_blk_ret, RK_blk_exit, RK_loop, RK_loop_ret, RK_loop_exit, RK_done])
    | (refine V_skip ?_; simp only [RK_seq, RK_seq_ret, RK_seq_exit, RK_blk, RK_blk_ret, RK_blk_exit, RK_loop, RK_loop_ret, RK_loop_exit, RK_done])
    | (refine V_exit ?_; simp [RK_seq, RK_seq_ret, RK_seq_exit, RK_blk, RK_blk_ret, RK_blk_exit, RK_loop, RK_loop_ret, RK_loop_exit, RK_done])
    | (refine ⟨?_, by omega⟩)
    | (refine ⟨fun hc => ?_, fun hc => ?_⟩ <;> (try (exfalso; omega)))
    | (intro hc <;> (try (exfalso; omega)))
    | (refine CallV.fun_ (h0) (by first | rfl | fail) (by first | assumption | (simp; done) | fail) (by first | (simp [hm2, hn0, hn3, hk0, hkn]; done) | (simp [hm2, hn0, hn3, hk0, hkn]; rfl) | fail) (by first | (simp; done) | fail) ?_ <;> (try simp [hm2, hn0, hn3, hk0, hkn]))
    | (refine CallP.fun_ (h0) (by first | rfl | fail) (by first | assumption | (simp; done) | fail) (by first | (simp [hm2, hn0, hn3, hk0, hkn]; done) | (simp [hm2, hn0, hn3, hk0, hkn]; rfl) | fail) (by first | (simp; done) | fail) (fun d hd => ?_); subst hd; (try simp [hm2, hn0, hn3, hk0, hkn]))
    | (refine CallV.fun_ (h1) (by first | rfl | fail) (by first | assumption | (simp; done) | fail) (by first | (simp [hm2, hn0, hn3, hk0, hkn]; done) | (simp [hm2, hn0, hn3, hk0, hkn]; rfl) | fail) (by first | (simp; done) | fail) ?_ <;> (try simp [hm2, hn0, hn3, hk0, hkn]))
    | (refine CallP.fun_ (h1) (by first | rfl | fail) (by first | assumption | (simp; done) | fail) (by first | (simp [hm2, hn0, hn3, hk0, hkn]; done) | (simp [hm2, hn0, hn3, hk0, hkn]; rfl) | fail) (by first | (simp; done) | fail) (fun d hd => ?_); subst hd; (try simp [hm2, hn0, hn3, hk0, hkn])))
    all_goals
      (refine EndOK.val (.inr rfl) ?_; simp [resD, oneOrTup, pureD, Try.results5])
  have hm2 : (members.length : Int) ≤ 70 := by omega
  obtain ⟨N, rfl⟩ := Int.eq_ofNat_of_zero_le (show 0 ≤ n by omega)
  obtain ⟨K, rfl⟩ := Int.eq_ofNat_of_zero_le (show 0 ≤ k by omega)
  have hN : N ≤ 300 := by omega
  have hK : K ≤ N := by omega
  have h2 := draw_fun seed N K
  have h3 := draw_fun seed N N
  have e1 : drawS seed N K = (drawG seed N N).take K := by rw [drawS, if_neg (by omega)]; exact (drawG_take seed N N hK (Nat.le_refl _)).symm
  have e2 := drawS_full seed (show N ≤ 4000 by omega)
  rw [e1] at h2
  rw [e2] at h3
  have hmem : ∀ q z, (drawG seed N N)[q]? = some z → ∃ Z : Nat, z = (Z : Int) ∧ Z < N := fun q z hz => by
    obtain ⟨Z, hZ, e⟩ := List.mem_map.1 ((drawG_perm seed N N (Nat.le_refl _)).mem_iff.1 (List.mem_of_getElem? hz))
    exact ⟨Z, e.symm, List.mem_range.1 hZ⟩
  have hnod := drawG_nodup seed N
  have hlen := drawG_length seed N N
  generalize drawG seed N N = more at h2 h3 hmem hnod hlen
  have htl : (more.take K).length = K := by rw [List.length_take]; omega
  have h4 := same_fun (more.take K) (more.take K) (by omega)
  simp only [decide_true] at h4
  have h5 := order_fun members 1 seed (by omega)
  have h6 := right_fun members (by omega)
  have hmn : min (K : Int) (N : Int) = (K : Int) := by omega
  have hKl : (K : Int) ≤ (more.length : Int) := by omega
  have hKl2 : K ≤ more.length := by omega
  (refine Fun.of_body Try.func5 rfl (by simp) fun Γ hn => ?_); simp only [entry, List.zipIdx_cons, List.zipIdx_nil, List.map_cons, List.map_nil, Nat.zero_add, Try.ntmps5]
  repeat' (first
    | (refine H_cons ?_; simp [hm2, hn0, hn3, hk0, hkn, hlen, htl, hmn, hK, boolR_rep, boolR_len])
    | (refine HD2_val rfl ?_; simp [hm2, hn0, hn3, hk0, hkn, hlen, htl, hmn, hK, boolR_rep, boolR_len])
    | (refine HD_cons ?_; simp [hm2, hn0, hn3, hk0, hkn, hlen, htl, hmn, hK, boolR_rep, boolR_len])
    | (refine HD2_chg rfl ?_; simp [hm2, hn0, hn3, hk0, hkn, hlen, htl, hmn, hK, boolR_rep, boolR_len])
    | (refine H_nil ?_; simp [hm2, hn0, hn3, hk0, hkn, hlen, htl, hmn, hK, boolR_rep, boolR_len])
    | (refine ⟨by omega, ?_⟩)
    | (refine V_sseq ?_; simp [hm2, hn0, hn3, hk0, hkn, hlen, htl, hmn, hK, boolR_rep, boolR_len])
    | (refine V_scond ?_; simp [hm2, hn0, hn3, hk0, hkn, hlen, htl, hmn, hK, boolR_rep, boolR_len])
    | (refine HD2_nil (hC _ (by kernel_rfl)) (hk _ ?_); clear hC hk C k; simp only [RK_seq, RK_seq_ret, RK_seq_exit, RK_blk, RK_blk_ret, RK_blk_exit, RK_loop, RK_loop_ret, RK_loop_exit, RK_done])
    | (refine HD_nil ?_)
    | (refine hk _ ?_; clear hk k; simp only [RK_seq, RK_seq_ret, RK_seq_exit, RK_blk, RK_blk_ret, RK_blk_exit, RK_loop, RK_loop_ret, RK_loop_exit, RK_done])
    | (refine V_drawV rfl (by kernel_rfl) (by kernel_rfl) fun k hk => ?_; simp [hm2, hn0, hn3, hk0, hkn, hlen, htl, hmn, hK, boolR_rep, boolR_len])
    | (refine V_drawN rfl (by kernel_rfl) (by kernel_rfl) (by simp [hn]) fun C k hC hk => ?_; simp [hm2, hn0, hn3, hk0, hkn, hlen, htl, hmn, hK, boolR_rep, boolR_len])
    | (refine HD3_val rfl ?_; simp [hm2, hn0, hn3, hk0, hkn, hlen, htl, hmn, hK, boolR_rep, boolR_len])
    | (refine HD3_put ?_; simp [hm2, hn0, hn3, hk0, hkn, hlen, htl, hmn, hK, boolR_rep, boolR_len])
    | (refine HD3_chg rfl rfl ?_; simp [hm2, hn0, hn3, hk0, hkn, hlen, htl, hmn, hK, boolR_rep, boolR_len])
    | (refine HD3_nil (hC _ _ (by kernel_rfl) (by kernel_rfl)) (hk _ ?_); clear hC hk C k; simp only [RK_seq, RK_seq_ret, RK_seq_exit, RK_blk, RK_blk_ret, RK_blk_exit, RK_loop, RK_loop_ret, RK_loop_exit, RK_done]; simp [St.ins, insL, putE, getK_setOb, getK_cons])
    | (refine V_drawE rfl (by kernel_rfl) (by kernel_rfl) (by simp [hn]) fun C k hC hk => ?_; simp [hm2, hn0, hn3, hk0, hkn, hlen, htl, hmn, hK, boolR_rep, boolR_len])
    | (refine HD_guardU rfl (by simp [hm2, hn0, hn3, hk0, hkn, hlen, htl, hmn, hK, boolR_rep, boolR_len]) ?_; simp [hm2, hn0, hn3, hk0, hkn, hlen, htl, hmn, hK, boolR_rep, boolR_len])
    | (refine HD_guard rfl (by simp [hm2, hn0, hn3, hk0, hkn, hlen, htl, hmn, hK, boolR_rep, boolR_len]) (fun hc => ?_) (fun hc => ?_) <;> (try simp [hm2, hn0, hn3, hk0, hkn, hlen, htl, hmn, hK, boolR_rep, boolR_len] at hc) <;> (try (exfalso; omega)) <;> (try simp [hm2, hn0, hn3, hk0, hkn, hlen, htl, hmn, hK, boolR_rep, boolR_len]))
    | (refine HD2_guardU rfl (by simp [hm2, hn0, hn3, hk0, hkn, hlen, htl, hmn, hK, boolR_rep, boolR_len]) ?_; simp [hm2, hn0, hn3, hk0, hkn, hlen, htl, hmn, hK, boolR_rep, boolR_len])
    | (refine HD2_guard rfl (by simp [hm2, hn0, hn3, hk0, hkn, hlen, htl, hmn, hK, boolR_rep, boolR_len]) (fun hc => ?_) (fun hc => ?_) <;> (try simp [hm2, hn0, hn3, hk0, hkn, hlen, htl, hmn, hK, boolR_rep, boolR_len] at hc) <;> (try (exfalso; omega)) <;> (try simp [hm2, hn0, hn3, hk0, hkn, hlen, htl, hmn, hK, boolR_rep, boolR_len]))
    | (refine V_sblock ?_; simp [hm2, hn0, hn3, hk0, hkn, hlen, htl, hmn, hK, boolR_rep, boolR_len])
    | (refine V_sregion ?_; simp [hm2, hn0, hn3, hk0, hkn, hlen, htl, hmn, hK, boolR_rep, boolR_len])
    | (refine V_ret ?_; simp only [RK_seq, RK_seq_ret, RK_seq_exit, RK_blk, RK_blk_ret, RK_blk_exit, RK_loop, RK_loop_ret, RK_loop_exit, RK_done])
    | (refine V_skip ?_; simp only [RK_seq, RK_seq_ret, RK_seq_exit, RK_blk, RK_blk_ret, RK_blk_exit, RK_loop, RK_loop_ret, RK_loop_exit, RK_done])
    | (refine V_exit ?_; simp [RK_seq, RK_seq_ret, RK_seq_exit, RK_blk, RK_blk_ret, RK_blk_exit, RK_loop, RK_loop_ret, RK_loop_exit, RK_done])
    | (refine ⟨?_, by omega⟩)
    | (refine ⟨fun hc => ?_, fun hc => ?_⟩ <;> (try (exfalso; omega)))
    | (intro hc <;> (try (exfalso; omega)))
    | (refine CallV.fun_ (h0) (by first | rfl | fail) (by first | assumption | (simp; done) | fail) (by first | (simp [hm2, hn0, hn3, hk0, hkn, hlen, htl, hmn, hK, boolR_rep, boolR_len]; done) | (simp [hm2, hn0, hn3, hk0, hkn, hlen, htl, hmn, hK, boolR_rep, boolR_len]; rfl) | fail) (by first | (simp; done) | fail) ?_ <;> (try simp [hm2, hn0, hn3, hk0, hkn, hlen, htl, hmn, hK, boolR_rep, boolR_len]))
    | (refine CallP.fun_ (h0) (by first | rfl | fail) (by first | assumption | (simp; done) | fail) (by first | (simp [hm2, hn0, hn3, hk0, hkn, hlen, htl, hmn, hK, boolR_rep, boolR_len]; done) | (simp [hm2, hn0, hn3, hk0, hkn, hlen, htl, hmn, hK, boolR_rep, boolR_len]; rfl) | fail) (by first | (simp; done) | fail) (fun d hd => ?_); subst hd; (try simp [hm2, hn0, hn3, hk0, hkn, hlen, htl, hmn, hK, boolR_rep, boolR_len]))
    | (refine CallV.fun_ (h1) (by first | rfl | fail) (by first | assumption | (simp; done) | fail) (by first | (simp [hm2, hn0, hn3, hk0, hkn, hlen, htl, hmn, hK, boolR_rep, boolR_len]; done) | (simp [hm2, hn0, hn3, hk0, hkn, hlen, htl, hmn, hK, boolR_rep, boolR_len]; rfl) | fail) (by first | (simp; done) | fail) ?_ <;> (try simp [hm2, hn0, hn3, hk0, hkn, hlen, htl, hmn, hK, boolR_rep, boolR_len]))
    | (refine CallP.fun_ (h1) (by first | rfl | fail) (by first | assumption | (simp; done) | fail) (by first | (simp [hm2, hn0, hn3, hk0, hkn, hlen, htl, hmn, hK, boolR_rep, boolR_len]; done) | (simp [hm2, hn0, hn3, hk0, hkn, hlen, htl, hmn, hK, boolR_rep, boolR_len]; rfl) | fail) (by first | (simp; done) | fail) (fun d hd => ?_); subst hd; (try simp [hm2, hn0, hn3, hk0, hkn, hlen, htl, hmn, hK, boolR_rep, boolR_len]))
    | (refine CallV.fun_ (h2) (by first | rfl | fail) (by first | assumption | (simp; done) | fail) (by first | (simp [hm2, hn0, hn3, hk0, hkn, hlen, htl, hmn, hK, boolR_rep, boolR_len]; done) | (simp [hm2, hn0, hn3, hk0, hkn, hlen, htl, hmn, hK, boolR_rep, boolR_len]; rfl) | fail) (by first | (simp; done) | fail) ?_ <;> (try simp [hm2, hn0, hn3, hk0, hkn, hlen, htl, hmn, hK, boolR_rep, boolR_len]))
    | (refine CallP.fun_ (h2) (by first | rfl | fail) (by first | assumption | (simp; done) | fail) (by first | (simp [hm2, hn0, hn3, hk0, hkn, hlen, htl, hmn, hK, boolR_rep, boolR_len]; done) | (simp [hm2, hn0, hn3, hk0, hkn, hlen, htl, hmn, hK, boolR_rep, boolR_len]; rfl) | fail) (by first | (simp; done) | fail) (fun d hd => ?_); subst hd; (try simp [hm2, hn0, hn3, hk0, hkn, hlen, htl, hmn, hK, boolR_rep, boolR_len]))
    | (refine CallV.fun_ (h3) (by first | rfl | fail) (by first | assumption | (simp; done) | fail) (by first | (simp [hm2, hn0, hn3, hk0, hkn, hlen, htl, hmn, hK, boolR_rep, boolR_len]; done) | (simp [hm2, hn0, hn3, hk0, hkn, hlen, htl, hmn, hK, boolR_rep, boolR_len]; rfl) | fail) (by first | (simp; done) | fail) ?_ <;> (try simp [hm2, hn0, hn3, hk0, hkn, hlen, htl, hmn, hK, boolR_rep, boolR_len]))
    | (refine CallP.fun_ (h3) (by first | rfl | fail) (by first | assumption | (simp; done) | fail) (by first | (simp [hm2, hn0, hn3, hk0, hkn, hlen, htl, hmn, hK, boolR_rep, boolR_len]; done) | (simp [hm2, hn0, hn3, hk0, hkn, hlen, htl, hmn, hK, boolR_rep, boolR_len]; rfl) | fail) (by first | (simp; done) | fail) (fun d hd => ?_); subst hd; (try simp [hm2, hn0, hn3, hk0, hkn, hlen, htl, hmn, hK, boolR_rep, boolR_len]))
    | (refine CallV.fun_ (h4) (by first | rfl | fail) (by first | assumption | (simp; done) | fail) (by first | (simp [hm2, hn0, hn3, hk0, hkn, hlen, htl, hmn, hK, boolR_rep, boolR_len]; done) | (simp [hm2, hn0, hn3, hk0, hkn, hlen, htl, hmn, hK, boolR_rep, boolR_len]; rfl) | fail) (by first | (simp; done) | fail) ?_ <;> (try simp [hm2, hn0, hn3, hk0, hkn, hlen, htl, hmn, hK, boolR_rep, boolR_len]))
    | (refine CallP.fun_ (h4) (by first | rfl | fail) (by first | assumption | (simp; done) | fail) (by first | (simp [hm2, hn0, hn3, hk0, hkn, hlen, htl, hmn, hK, boolR_rep, boolR_len]; done) | (simp [hm2, hn0, hn3, hk0, hkn, hlen, htl, hmn, hK, boolR_rep, boolR_len]; rfl) | fail) (by first | (simp; done) | fail) (fun d hd => ?_); subst hd; (try simp [hm2, hn0, hn3, hk0, hkn, hlen, htl, hmn, hK, boolR_rep, boolR_len])))
  have hz := seenL_zero N more
  refine V_loopO (α := { q : Nat // q ≤ N }) [0, 1, 3, 9, 11, 12] (fun q => [(13, .u (.int .i64 q.1))]) (fun q => [(0, .vec 4 1 (boolR (seenL N more q.1)))]) 1 (fun q => N - q.1) ⟨0, by omega⟩ ?_ ?_
  · exact (Wk.cut rfl (by simp [hn]) (by simp [wkO, St.lp, getK_cons, getK, Ob.under, D.under, under_rowsD, under_entD, hz, pure_boolR, under_boolR, boolR]) (by simp [wkU, St.lp, keepE, getK_cons, getK, D.under, hz, pure_boolR, under_boolR, boolR]) (by simp [wkE, St.lp, keepE, getK_cons, getK, hz, pure_boolR, under_boolR, boolR] <;> (try (intros; simp_all; done)) <;> (try (intros; omega)) <;> (try grind)))
  rintro ⟨q, hq⟩
  simp [St.lp, St.only, keepE, getK_cons, getK]
  by_cases hlt : q < N
  · obtain ⟨z, hx⟩ : ∃ z, more[q]? = some z := ⟨_, List.getElem?_eq_getElem (by omega)⟩
    obtain ⟨Z, rfl, hZ⟩ := hmem q z hx
    have hsl := seenL_len N more q
    have hsg := seenL_get hZ hx hnod
    have hss := seenL_set hZ hx
    generalize hA : seenL N more q = A at hsl hsg hss
    have hgE : ∀ h : Z < A.length, A[Z]'h = false := fun h => (List.getElem?_eq_some_iff.1 hsg).2
    have hxE : ∀ h : q < more.length, more[q]'h = (Z : Int) := fun h => (List.getElem?_eq_some_iff.1 hx).2
    have hZ0 : ¬ (Z : Int) < 0 := by omega
    have hZ1 : ¬ (N : Int) ≤ (Z : Int) := by omega
    have hZ2 : ¬ N ≤ Z := by omega
    repeat' (first
    | (refine H_cons ?_; simp [boolR_len, boolR_getE, boolR_set, hlen, hsl, hlt, hxE, hZ0, hZ1, hZ2, hZ, hgE, hss])
    | (refine HD2_val rfl ?_; simp [boolR_len, boolR_getE, boolR_set, hlen, hsl, hlt, hxE, hZ0, hZ1, hZ2, hZ, hgE, hss])
    | (refine HD_cons ?_; simp [boolR_len, boolR_getE, boolR_set, hlen, hsl, hlt, hxE, hZ0, hZ1, hZ2, hZ, hgE, hss])
    | (refine HD2_chg rfl ?_; simp [boolR_len, boolR_getE, boolR_set, hlen, hsl, hlt, hxE, hZ0, hZ1, hZ2, hZ, hgE, hss])
    | (refine H_nil ?_; simp [boolR_len, boolR_getE, boolR_set, hlen, hsl, hlt, hxE, hZ0, hZ1, hZ2, hZ, hgE, hss])
    | (refine ⟨by omega, ?_⟩)
    | (refine V_sseq ?_; simp [boolR_len, boolR_getE, boolR_set, hlen, hsl, hlt, hxE, hZ0, hZ1, hZ2, hZ, hgE, hss])
    | (refine V_scond ?_; simp [boolR_len, boolR_getE, boolR_set, hlen, hsl, hlt, hxE, hZ0, hZ1, hZ2, hZ, hgE, hss])
    | (refine HD2_nil (hC _ (by kernel_rfl)) (hk _ ?_); clear hC hk C k; simp only [RK_seq, RK_seq_ret, RK_seq_exit, RK_blk, RK_blk_ret, RK_blk_exit, RK_loop, RK_loop_ret, RK_loop_exit, RK_done])
    | (refine HD_nil ?_)
    | (refine hk _ ?_; clear hk k; simp only [RK_seq, RK_seq_ret, RK_seq_exit, RK_blk, RK_blk_ret, RK_blk_exit, RK_loop, RK_loop_ret, RK_loop_exit, RK_done])
    | (refine V_drawV rfl (by kernel_rfl) (by kernel_rfl) fun k hk => ?_; simp [boolR_len, boolR_getE, boolR_set, hlen, hsl, hlt, hxE, hZ0, hZ1, hZ2, hZ, hgE, hss])
    | (refine V_drawN rfl (by kernel_rfl) (by kernel_rfl) (by simp [hn]) fun C k hC hk => ?_; simp [boolR_len, boolR_getE, boolR_set, hlen, hsl, hlt, hxE, hZ0, hZ1, hZ2, hZ, hgE, hss])
    | (refine HD3_val rfl ?_; simp [boolR_len, boolR_getE, boolR_set, hlen, hsl, hlt, hxE, hZ0, hZ1, hZ2, hZ, hgE, hss])
    | (refine HD3_put ?_; simp [boolR_len, boolR_getE, boolR_set, hlen, hsl, hlt, hxE, hZ0, hZ1, hZ2, hZ, hgE, hss])
    | (refine HD3_chg rfl rfl ?_; simp [boolR_len, boolR_getE, boolR_set, hlen, hsl, hlt, hxE, hZ0, hZ1, hZ2, hZ, hgE, hss])
    | (refine HD3_nil (hC _ _ (by kernel_rfl) (by kernel_rfl)) (hk _ ?_); clear hC hk C k; simp only [RK_seq, RK_seq_ret, RK_seq_exit, RK_blk, RK_blk_ret, RK_blk_exit, RK_loop, RK_loop_ret, RK_loop_exit, RK_done]; simp [St.ins, insL, putE, getK_setOb, getK_cons])
    | (refine V_drawE rfl (by kernel_rfl) (by kernel_rfl) (by simp [hn]) fun C k hC hk => ?_; simp [boolR_len, boolR_getE, boolR_set, hlen, hsl, hlt, hxE, hZ0, hZ1, hZ2, hZ, hgE, hss])
    | (refine HD_guardU rfl (by simp [boolR_len, boolR_getE, boolR_set, hlen, hsl, hlt, hxE, hZ0, hZ1, hZ2, hZ, hgE, hss]) ?_; simp [boolR_len, boolR_getE, boolR_set, hlen, hsl, hlt, hxE, hZ0, hZ1, hZ2, hZ, hgE, hss])
    | (refine HD_guard rfl (by simp [boolR_len, boolR_getE, boolR_set, hlen, hsl, hlt, hxE, hZ0, hZ1, hZ2, hZ, hgE, hss]) (fun hc => ?_) (fun hc => ?_) <;> (try simp [boolR_len, boolR_getE, boolR_set, hlen, hsl, hlt, hxE, hZ0, hZ1, hZ2, hZ, hgE, hss] at hc) <;> (try (exfalso; omega)) <;> (try simp [boolR_len, boolR_getE, boolR_set, hlen, hsl, hlt, hxE, hZ0, hZ1, hZ2, hZ, hgE, hss]))
    | (refine HD2_guardU rfl (by simp [boolR_len, boolR_getE, boolR_set, hlen, hsl, hlt, hxE, hZ0, hZ1, hZ2, hZ, hgE, hss]) ?_; simp [boolR_len, boolR_getE, boolR_set, hlen, hsl, hlt, hxE, hZ0, hZ1, hZ2, hZ, hgE, hss])
    | (refine HD2_guard rfl (by simp [boolR_len, boolR_getE, boolR_set, hlen, hsl, hlt, hxE, hZ0, hZ1, hZ2, hZ, hgE, hss]) (fun hc => ?_) (fun hc => ?_) <;> (try simp [boolR_len, boolR_getE, boolR_set, hlen, hsl, hlt, hxE, hZ0, hZ1, hZ2, hZ, hgE, hss] at hc) <;> (try (exfalso; omega)) <;> (try simp [boolR_len, boolR_getE, boolR_set, hlen, hsl, hlt, hxE, hZ0, hZ1, hZ2, hZ, hgE, hss]))
    | (refine V_sblock ?_; simp [boolR_len, boolR_getE, boolR_set, hlen, hsl, hlt, hxE, hZ0, hZ1, hZ2, hZ, hgE, hss])
    | (refine V_sregion ?_; simp [boolR_len, boolR_getE, boolR_set, hlen, hsl, hlt, hxE, hZ0, hZ1, hZ2, hZ, hgE, hss])
    | (refine V_ret ?_; simp only [RK_seq, RK_seq_ret, RK_seq_exit, RK_blk, RK_blk_ret, RK_blk_exit, RK_loop, RK_loop_ret, RK_loop_exit, RK_done])
    | (refine V_skip ?_; simp only [RK_seq, RK_seq_ret, RK_seq_exit, RK_blk, RK_blk_ret, RK_blk_exit, RK_loop, RK_loop_ret, RK_loop_exit, RK_done])
    | (refine V_exit ?_; simp [RK_seq, RK_seq_ret, RK_seq_exit, RK_blk, RK_blk_ret, RK_blk_exit, RK_loop, RK_loop_ret, RK_loop_exit, RK_done])
    | (refine ⟨?_, by omega⟩)
    | (refine ⟨fun hc => ?_, fun hc => ?_⟩ <;> (try (exfalso; omega)))
    | (intro hc <;> (try (exfalso; omega))))
    refine LoopW.next ⟨q + 1, by omega⟩ (by simp; omega) ?_
    exact (Wk.cut rfl (by simp [hn]) (by simp [wkO, St.lp, getK_cons, getK, Ob.under, D.under, under_rowsD, under_entD, pure_boolR, under_boolR]) (by simp [wkU, St.lp, keepE, getK_cons, getK, D.under, pure_boolR, under_boolR]) (by simp [wkE, St.lp, keepE, getK_cons, getK, pure_boolR, under_boolR] <;> (try (intros; simp_all; done)) <;> (try (intros; omega)) <;> (try grind)))
  obtain rfl : q = N := by omega
  by_cases hr : rightS members = true
  case neg =>
    have ho : orderS members 1 seed = [] := by
      unfold orderS
      rw [if_neg]
      rw [validB_eq]
      simp [hr]
    rw [ho] at h5
    rw [show rightS members = false by simpa using hr] at h6
    simp only [ints, List.map_nil] at h5
    repeat' (first
    | (refine H_cons ?_; simp)
    | (refine HD2_val rfl ?_; simp)
    | (refine HD_cons ?_; simp)
    | (refine HD2_chg rfl ?_; simp)
    | (refine H_nil ?_; simp)
    | (refine ⟨by omega, ?_⟩)
    | (refine V_sseq ?_; simp)
    | (refine V_scond ?_; simp)
    | (refine HD2_nil (hC _ (by kernel_rfl)) (hk _ ?_); clear hC hk C k; simp only [RK_seq, RK_seq_ret, RK_seq_exit, RK_blk, RK_blk_ret, RK_blk_exit, RK_loop, RK_loop_ret, RK_loop_exit, RK_done])
    | (refine HD_nil ?_)
    | (refine hk _ ?_; clear hk k; simp only [RK_seq, RK_seq_ret, RK_seq_exit, RK_blk, RK_blk_ret, RK_blk_exit, RK_loop, RK_loop_ret, RK_loop_exit, RK_done])
    | (refine V_drawV rfl (by kernel_rfl) (by kernel_rfl) fun k hk => ?_; simp)
    | (refine V_drawN rfl (by kernel_rfl) (by kernel_rfl) (by simp [hn]) fun C k hC hk => ?_; simp)
    | (refine HD3_val rfl ?_; simp)
    | (refine HD3_put ?_; simp)
    | (refine HD3_chg rfl rfl ?_; simp)
    | (refine HD3_nil (hC _ _ (by kernel_rfl) (by kernel_rfl)) (hk _ ?_); clear hC hk C k; simp only [RK_seq, RK_seq_ret, RK_seq_exit, RK_blk, RK_blk_ret, RK_blk_exit, RK_loop, RK_loop_ret, RK_loop_exit, RK_done]; simp [St.ins, insL, putE, getK_setOb, getK_cons])
    | (refine V_drawE rfl (by kernel_rfl) (by kernel_rfl) (by simp [hn]) fun C k hC hk => ?_; simp)
    | (refine HD_guardU rfl (by simp) ?_; simp)
    | (refine HD_guard rfl (by simp) (fun hc => ?_) (fun hc => ?_) <;> (try simp at hc) <;> (try (exfalso; omega)) <;> (try simp))
    | (refine HD2_guardU rfl (by simp) ?_; simp)
    | (refine HD2_guard rfl (by simp) (fun hc => ?_) (fun hc => ?_) <;> (try simp at hc) <;> (try (exfalso; omega)) <;> (try simp))
    | (refine V_sblock ?_; simp)
    | (refine V_sregion ?_; simp)
    | (refine V_ret ?_; simp only [RK_seq, RK_seq_ret, RK_seq_exit, RK_blk, RK_blk_ret, RK_blk_exit, RK_loop, RK_loop_ret, RK_loop_exit, RK_done])
    | (refine V_skip ?_; simp only [RK_seq, RK_seq_ret, RK_seq_exit, RK_blk, RK_blk_ret, RK_blk_exit, RK_loop, RK_loop_ret, RK_loop_exit, RK_done])
    | (refine V_exit ?_; simp [RK_seq, RK_seq_ret, RK_seq_exit, RK_blk, RK_blk_ret, RK_blk_exit, RK_loop, RK_loop_ret, RK_loop_exit, RK_done])
    | (refine ⟨?_, by omega⟩)
    | (refine ⟨fun hc => ?_, fun hc => ?_⟩ <;> (try (exfalso; omega)))
    | (intro hc <;> (try (exfalso; omega)))
    | (refine CallV.fun_ (h5) (by first | rfl | fail) (by first | assumption | (simp; done) | fail) (by first | (simp; done) | (simp; rfl) | fail) (by first | (simp; done) | fail) ?_ <;> (try simp))
    | (refine CallP.fun_ (h5) (by first | rfl | fail) (by first | assumption | (simp; done) | fail) (by first | (simp; done) | (simp; rfl) | fail) (by first | (simp; done) | fail) (fun d hd => ?_); subst hd; (try simp))
    | (refine CallV.fun_ (h6) (by first | rfl | fail) (by first | assumption | (simp; done) | fail) (by first | (simp; done) | (simp; rfl) | fail) (by first | (simp; done) | fail) ?_ <;> (try simp))
    | (refine CallP.fun_ (h6) (by first | rfl | fail) (by first | assumption | (simp; done) | fail) (by first | (simp; done) | (simp; rfl) | fail) (by first | (simp; done) | fail) (fun d hd => ?_); subst hd; (try simp)))
    all_goals
      (refine EndOK.val (.inr rfl) ?_; simp [resD, oneOrTup, pureD, Try.results5])
  rw [hr] at h6
  have hmo : ∀ x ∈ members, ¬ idxS (orderS members 1 seed) x < 0 := fun x hx => by
    rw [idxS, if_pos (orderS_mem hr (by omega) (by omega) hx)]
    omega
  have hol : (orderS members 1 seed).length = members.length := orderS_length (by rw [validB_eq]; simp [hr])
  have h7 := order_fun members 0 seed (by omega)
  have h8 := order_fun members 2 seed (by omega)
  have e0 : orderS members 0 seed = members := by rw [orderS, if_pos (by rw [validB_eq]; simp [hr]), if_neg (by omega)]
  have e2 : orderS members 2 seed = members := by rw [orderS, if_pos (by rw [validB_eq]; simp [hr]), if_neg (by omega)]
  rw [e0] at h7
  rw [e2] at h8
  have h9 := same_fun members members (by omega)
  simp only [decide_true] at h9
  generalize orderS members 1 seed = o at h5 hmo hol
  repeat' (first
    | (refine H_cons ?_; simp)
    | (refine HD2_val rfl ?_; simp)
    | (refine HD_cons ?_; simp)
    | (refine HD2_chg rfl ?_; simp)
    | (refine H_nil ?_; simp)
    | (refine ⟨by omega, ?_⟩)
    | (refine V_sseq ?_; simp)
    | (refine V_scond ?_; simp)
    | (refine HD2_nil (hC _ (by kernel_rfl)) (hk _ ?_); clear hC hk C k; simp only [RK_seq, RK_seq_ret, RK_seq_exit, RK_blk, RK_blk_ret, RK_blk_exit, RK_loop, RK_loop_ret, RK_loop_exit, RK_done])
    | (refine HD_nil ?_)
    | (refine hk _ ?_; clear hk k; simp only [RK_seq, RK_seq_ret, RK_seq_exit, RK_blk, RK_blk_ret, RK_blk_exit, RK_loop, RK_loop_ret, RK_loop_exit, RK_done])
    | (refine V_drawV rfl (by kernel_rfl) (by kernel_rfl) fun k hk => ?_; simp)
    | (refine V_drawN rfl (by kernel_rfl) (by kernel_rfl) (by simp [hn]) fun C k hC hk => ?_; simp)
    | (refine HD3_val rfl ?_; simp)
    | (refine HD3_put ?_; simp)
    | (refine HD3_chg rfl rfl ?_; simp)
    | (refine HD3_nil (hC _ _ (by kernel_rfl) (by kernel_rfl)) (hk _ ?_); clear hC hk C k; simp only [RK_seq, RK_seq_ret, RK_seq_exit, RK_blk, RK_blk_ret, RK_blk_exit, RK_loop, RK_loop_ret, RK_loop_exit, RK_done]; simp [St.ins, insL, putE, getK_setOb, getK_cons])
    | (refine V_drawE rfl (by kernel_rfl) (by kernel_rfl) (by simp [hn]) fun C k hC hk => ?_; simp)
    | (refine HD_guardU rfl (by simp) ?_; simp)
    | (refine HD_guard rfl (by simp) (fun hc => ?_) (fun hc => ?_) <;> (try simp at hc) <;> (try (exfalso; omega)) <;> (try simp))
    | (refine HD2_guardU rfl (by simp) ?_; simp)
    | (refine HD2_guard rfl (by simp) (fun hc => ?_) (fun hc => ?_) <;> (try simp at hc) <;> (try (exfalso; omega)) <;> (try simp))
    | (refine V_sblock ?_; simp)
    | (refine V_sregion ?_; simp)
    | (refine V_ret ?_; simp only [RK_seq, RK_seq_ret, RK_seq_exit, RK_blk, RK_blk_ret, RK_blk_exit, RK_loop, RK_loop_ret, RK_loop_exit, RK_done])
    | (refine V_skip ?_; simp only [RK_seq, RK_seq_ret, RK_seq_exit, RK_blk, RK_blk_ret, RK_blk_exit, RK_loop, RK_loop_ret, RK_loop_exit, RK_done])
    | (refine V_exit ?_; simp [RK_seq, RK_seq_ret, RK_seq_exit, RK_blk, RK_blk_ret, RK_blk_exit, RK_loop, RK_loop_ret, RK_loop_exit, RK_done])
    | (refine ⟨?_, by omega⟩)
    | (refine ⟨fun hc => ?_, fun hc => ?_⟩ <;> (try (exfalso; omega)))
    | (intro hc <;> (try (exfalso; omega)))
    | (refine CallV.fun_ (h5) (by first | rfl | fail) (by first | assumption | (simp; done) | fail) (by first | (simp; done) | (simp; rfl) | fail) (by first | (simp; done) | fail) ?_ <;> (try simp))
    | (refine CallP.fun_ (h5) (by first | rfl | fail) (by first | assumption | (simp; done) | fail) (by first | (simp; done) | (simp; rfl) | fail) (by first | (simp; done) | fail) (fun d hd => ?_); subst hd; (try simp))
    | (refine CallV.fun_ (h6) (by first | rfl | fail) (by first | assumption | (simp; done) | fail) (by first | (simp; done) | (simp; rfl) | fail) (by first | (simp; done) | fail) ?_ <;> (try simp))
    | (refine CallP.fun_ (h6) (by first | rfl | fail) (by first | assumption | (simp; done) | fail) (by first | (simp; done) | (simp; rfl) | fail) (by first | (simp; done) | fail) (fun d hd => ?_); subst hd; (try simp)))
  refine V_loopF (α := { i : Nat // i ≤ members.length }) [0, 3, 9, 14] (fun i => [(15, .u (.int .i64 i.1))]) (fun i => members.length - i.1) ⟨0, by omega⟩ ?_ ?_
  · exact (Wk.cut rfl (by simp [hn]) (by simp [wkO, St.lp, getK_cons, getK, Ob.under, D.under, under_rowsD, under_entD, pure_boolR, under_boolR]) (by simp [wkU, St.lp, keepE, getK_cons, getK, D.under, pure_boolR, under_boolR]) (by simp [wkE, St.lp, keepE, getK_cons, getK, pure_boolR, under_boolR] <;> (try (intros; simp_all; done)) <;> (try (intros; omega)) <;> (try grind)))
  rintro ⟨i, hi⟩
  simp [St.lp, St.only, keepE, getK_cons, getK]
  rcases hx : members[i]? with _ | x
  · have hge : members.length ≤ i := by simpa using hx
    obtain rfl : i = members.length := by omega
    repeat' (first
    | (refine H_cons ?_; simp [hx, hol])
    | (refine HD2_val rfl ?_; simp [hx, hol])
    | (refine HD_cons ?_; simp [hx, hol])
    | (refine HD2_chg rfl ?_; simp [hx, hol])
    | (refine H_nil ?_; simp [hx, hol])
    | (refine ⟨by omega, ?_⟩)
    | (refine V_sseq ?_; simp [hx, hol])
    | (refine V_scond ?_; simp [hx, hol])
    | (refine HD2_nil (hC _ (by kernel_rfl)) (hk _ ?_); clear hC hk C k; simp only [RK_seq, RK_seq_ret, RK_seq_exit, RK_blk, RK_blk_ret, RK_blk_exit, RK_loop, RK_loop_ret, RK_loop_exit, RK_done])
    | (refine HD_nil ?_)
    | (refine hk _ ?_; clear hk k; simp only [RK_seq, RK_seq_ret, RK_seq_exit, RK_blk, RK_blk_ret, RK_blk_exit, RK_loop, RK_loop_ret, RK_loop_exit, RK_done])
    | (refine V_drawV rfl (by kernel_rfl) (by kernel_rfl) fun k hk => ?_; simp [hx, hol])
    | (refine V_drawN rfl (by kernel_rfl) (by kernel_rfl) (by simp [hn]) fun C k hC hk => ?_; simp [hx, hol])
    | (refine HD3_val rfl ?_; simp [hx, hol])
    | (refine HD3_put ?_; simp [hx, hol])
    | (refine HD3_chg rfl rfl ?_; simp [hx, hol])
    | (refine HD3_nil (hC _ _ (by kernel_rfl) (by kernel_rfl)) (hk _ ?_); clear hC hk C k; simp only [RK_seq, RK_seq_ret, RK_seq_exit, RK_blk, RK_blk_ret, RK_blk_exit, RK_loop, RK_loop_ret, RK_loop_exit, RK_done]; simp [St.ins, insL, putE, getK_setOb, getK_cons])
    | (refine V_drawE rfl (by kernel_rfl) (by kernel_rfl) (by simp [hn]) fun C k hC hk => ?_; simp [hx, hol])
    | (refine HD_guardU rfl (by simp [hx, hol]) ?_; simp [hx, hol])
    | (refine HD_guard rfl (by simp [hx, hol]) (fun hc => ?_) (fun hc => ?_) <;> (try simp [hx, hol] at hc) <;> (try (exfalso; omega)) <;> (try simp [hx, hol]))
    | (refine HD2_guardU rfl (by simp [hx, hol]) ?_; simp [hx, hol])
    | (refine HD2_guard rfl (by simp [hx, hol]) (fun hc => ?_) (fun hc => ?_) <;> (try simp [hx, hol] at hc) <;> (try (exfalso; omega)) <;> (try simp [hx, hol]))
    | (refine V_sblock ?_; simp [hx, hol])
    | (refine V_sregion ?_; simp [hx, hol])
    | (refine V_ret ?_; simp only [RK_seq, RK_seq_ret, RK_seq_exit, RK_blk, RK_blk_ret, RK_blk_exit, RK_loop, RK_loop_ret, RK_loop_exit, RK_done])
    | (refine V_skip ?_; simp only [RK_seq, RK_seq_ret, RK_seq_exit, RK_blk, RK_blk_ret, RK_blk_exit, RK_loop, RK_loop_ret, RK_loop_exit, RK_done])
    | (refine V_exit ?_; simp [RK_seq, RK_seq_ret, RK_seq_exit, RK_blk, RK_blk_ret, RK_blk_exit, RK_loop, RK_loop_ret, RK_loop_exit, RK_done])
    | (refine ⟨?_, by omega⟩)
    | (refine ⟨fun hc => ?_, fun hc => ?_⟩ <;> (try (exfalso; omega)))
    | (intro hc <;> (try (exfalso; omega)))
    | (refine CallV.fun_ (h7) (by first | rfl | fail) (by first | assumption | (simp; done) | fail) (by first | (simp [hx, hol]; done) | (simp [hx, hol]; rfl) | fail) (by first | (simp; done) | fail) ?_ <;> (try simp [hx, hol]))
    | (refine CallP.fun_ (h7) (by first | rfl | fail) (by first | assumption | (simp; done) | fail) (by first | (simp [hx, hol]; done) | (simp [hx, hol]; rfl) | fail) (by first | (simp; done) | fail) (fun d hd => ?_); subst hd; (try simp [hx, hol]))
    | (refine CallV.fun_ (h8) (by first | rfl | fail) (by first | assumption | (simp; done) | fail) (by first | (simp [hx, hol]; done) | (simp [hx, hol]; rfl) | fail) (by first | (simp; done) | fail) ?_ <;> (try simp [hx, hol]))
    | (refine CallP.fun_ (h8) (by first | rfl | fail) (by first | assumption | (simp; done) | fail) (by first | (simp [hx, hol]; done) | (simp [hx, hol]; rfl) | fail) (by first | (simp; done) | fail) (fun d hd => ?_); subst hd; (try simp [hx, hol]))
    | (refine CallV.fun_ (h9) (by first | rfl | fail) (by first | assumption | (simp; done) | fail) (by first | (simp [hx, hol]; done) | (simp [hx, hol]; rfl) | fail) (by first | (simp; done) | fail) ?_ <;> (try simp [hx, hol]))
    | (refine CallP.fun_ (h9) (by first | rfl | fail) (by first | assumption | (simp; done) | fail) (by first | (simp [hx, hol]; done) | (simp [hx, hol]; rfl) | fail) (by first | (simp; done) | fail) (fun d hd => ?_); subst hd; (try simp [hx, hol])))
    all_goals
      (refine EndOK.val (.inr rfl) ?_; simp [resD, oneOrTup, pureD, Try.results5])
  · have hlt : i < members.length := (List.getElem?_eq_some_iff.1 hx).1
    have h10 := at_fun o x (by omega)
    have hno := hmo x (List.mem_of_getElem? hx)
    repeat' (first
    | (refine H_cons ?_; simp [hx, hno])
    | (refine HD2_val rfl ?_; simp [hx, hno])
    | (refine HD_cons ?_; simp [hx, hno])
    | (refine HD2_chg rfl ?_; simp [hx, hno])
    | (refine H_nil ?_; simp [hx, hno])
    | (refine ⟨by omega, ?_⟩)
    | (refine V_sseq ?_; simp [hx, hno])
    | (refine V_scond ?_; simp [hx, hno])
    | (refine HD2_nil (hC _ (by kernel_rfl)) (hk _ ?_); clear hC hk C k; simp only [RK_seq, RK_seq_ret, RK_seq_exit, RK_blk, RK_blk_ret, RK_blk_exit, RK_loop, RK_loop_ret, RK_loop_exit, RK_done])
    | (refine HD_nil ?_)
    | (refine hk _ ?_; clear hk k; simp only [RK_seq, RK_seq_ret, RK_seq_exit, RK_blk, RK_blk_ret, RK_blk_exit, RK_loop, RK_loop_ret, RK_loop_exit, RK_done])
    | (refine V_drawV rfl (by kernel_rfl) (by kernel_rfl) fun k hk => ?_; simp [hx, hno])
    | (refine V_drawN rfl (by kernel_rfl) (by kernel_rfl) (by simp [hn]) fun C k hC hk => ?_; simp [hx, hno])
    | (refine HD3_val rfl ?_; simp [hx, hno])
    | (refine HD3_put ?_; simp [hx, hno])
    | (refine HD3_chg rfl rfl ?_; simp [hx, hno])
    | (refine HD3_nil (hC _ _ (by kernel_rfl) (by kernel_rfl)) (hk _ ?_); clear hC hk C k; simp only [RK_seq, RK_seq_ret, RK_seq_exit, RK_blk, RK_blk_ret, RK_blk_exit, RK_loop, RK_loop_ret, RK_loop_exit, RK_done]; simp [St.ins, insL, putE, getK_setOb, getK_cons])
    | (refine V_drawE rfl (by kernel_rfl) (by kernel_rfl) (by simp [hn]) fun C k hC hk => ?_; simp [hx, hno])
    | (refine HD_guardU rfl (by simp [hx, hno]) ?_; simp [hx, hno])
    | (refine HD_guard rfl (by simp [hx, hno]) (fun hc => ?_) (fun hc => ?_) <;> (try simp [hx, hno] at hc) <;> (try (exfalso; omega)) <;> (try simp [hx, hno]))
    | (refine HD2_guardU rfl (by simp [hx, hno]) ?_; simp [hx, hno])
    | (refine HD2_guard rfl (by simp [hx, hno]) (fun hc => ?_) (fun hc => ?_) <;> (try simp [hx, hno] at hc) <;> (try (exfalso; omega)) <;> (try simp [hx, hno]))
    | (refine V_sblock ?_; simp [hx, hno])
    | (refine V_sregion ?_; simp [hx, hno])
    | (refine V_ret ?_; simp only [RK_seq, RK_seq_ret, RK_seq_exit, RK_blk, RK_blk_ret, RK_blk_exit, RK_loop, RK_loop_ret, RK_loop_exit, RK_done])
    | (refine V_skip ?_; simp only [RK_seq, RK_seq_ret, RK_seq_exit, RK_blk, RK_blk_ret, RK_blk_exit, RK_loop, RK_loop_ret, RK_loop_exit, RK_done])
    | (refine V_exit ?_; simp [RK_seq, RK_seq_ret, RK_seq_exit, RK_blk, RK_blk_ret, RK_blk_exit, RK_loop, RK_loop_ret, RK_loop_exit, RK_done])
    | (refine ⟨?_, by omega⟩)
    | (refine ⟨fun hc => ?_, fun hc => ?_⟩ <;> (try (exfalso; omega)))
    | (intro hc <;> (try (exfalso; omega)))
    | (refine CallV.fun_ (h10) (by first | rfl | fail) (by first | assumption | (simp; done) | fail) (by first | (simp [hx, hno]; done) | (simp [hx, hno]; rfl) | fail) (by first | (simp; done) | fail) ?_ <;> (try simp [hx, hno]))
    | (refine CallP.fun_ (h10) (by first | rfl | fail) (by first | assumption | (simp; done) | fail) (by first | (simp [hx, hno]; done) | (simp [hx, hno]; rfl) | fail) (by first | (simp; done) | fail) (fun d hd => ?_); subst hd; (try simp [hx, hno])))
    refine LoopW.next ⟨i + 1, by omega⟩ (by simp; omega) ?_
    exact (Wk.cut rfl (by simp [hn]) (by simp [wkO, St.lp, getK_cons, getK, Ob.under, D.under, under_rowsD, under_entD, pure_boolR, under_boolR]) (by simp [wkU, St.lp, keepE, getK_cons, getK, D.under, pure_boolR, under_boolR]) (by simp [wkE, St.lp, keepE, getK_cons, getK, pure_boolR, under_boolR] <;> (try (intros; simp_all; done)) <;> (try (intros; omega)) <;> (try grind)))
end Go.Proofs.Ytmebfcehkfaiaaa
