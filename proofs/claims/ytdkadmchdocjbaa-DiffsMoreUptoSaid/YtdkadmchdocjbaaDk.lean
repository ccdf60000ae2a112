/- Layer 13: the reference: a sweep through the constraints: the walk. -/
import Derived.Test.YtdkadmchdocjbaaDj
set_option linter.all false
set_option maxRecDepth 100000
set_option maxHeartbeats 8000000
set_option linter.all false
namespace Go.Proofs.Ytdkadmchdocjbaa
open Go Go.VL
theorem intR_len (l : List Int) : (intR l).length = l.length := by simp [intR]
theorem intR_getE (l : List Int) (i : Nat) (h : i < (intR l).length) : (intR l)[i] = [D.u (.int .i64 (l[i]'(by simpa [intR] using h)))] := by simp [intR]
theorem intR_set (l : List Int) (i : Nat) (z : Int) : (intR l).set i [D.u (.int .i64 z)] = intR (l.set i z) := by simp [intR, List.map_set]
theorem intR_all (l : List Int) : allU2 (intR l) = some (l.map fun z => [U.int .i64 z]) := by rw [← intR_rows]; simp
theorem intR_rep (n : Nat) (z : Int) : List.replicate n [D.u (.int .i64 z)] = intR (List.replicate n z) := by simp [intR]
theorem pure_intR (l : List Int) : pureRows (intR l) := by
  induction l with
  | nil => simp [intR, pureRows]
  | cons a l ih => simp only [intR] at ih; simp [intR, pureRows, pureRow, ih]
theorem under_intR (n : Nat) (l : List Int) : (∀ x ∈ intR l, ∀ y ∈ x, D.under n y = true) ↔ True := by simp [intR, D.under]
def boolR (l : List Bool) : List (List D) := l.map fun b => [D.u (.bool b)]
theorem boolR_len (l : List Bool) : (boolR l).length = l.length := by simp [boolR]
theorem boolR_getE (l : List Bool) (i : Nat) (h : i < (boolR l).length) : (boolR l)[i] = [D.u (.bool (l[i]'(by simpa [boolR] using h)))] := by simp [boolR]
theorem boolR_set (l : List Bool) (i : Nat) (b : Bool) : (boolR l).set i [D.u (.bool b)] = boolR (l.set i b) := by simp [boolR, List.map_set]
theorem boolR_rep (n : Nat) (b : Bool) : List.replicate n [D.u (.bool b)] = boolR (List.replicate n b) := by simp [boolR]
theorem pure_boolR (l : List Bool) : pureRows (boolR l) := by
  induction l with
  | nil => simp [boolR, pureRows]
  | cons a l ih => simp only [boolR] at ih; simp [boolR, pureRows, pureRow, ih]
theorem under_boolR (n : Nat) (l : List Bool) : (∀ x ∈ boolR l, ∀ y ∈ x, D.under n y = true) ↔ True := by
  refine ⟨fun _ => trivial, fun _ x hx y hy => ?_⟩
  obtain ⟨b, _, rfl⟩ := List.mem_map.1 hx
  simp at hy
  subst hy
  simp [D.under]
def bst (n : Nat) (f : Nat → Bool) : List Bool := (List.range n).map f
theorem bst_len (n : Nat) (f : Nat → Bool) : (bst n f).length = n := by simp [bst]
theorem bst_getE (n : Nat) (f : Nat → Bool) (i : Nat) (h : i < (bst n f).length) : (bst n f)[i] = f i := by simp [bst]
theorem bst_set (n : Nat) (f : Nat → Bool) (i : Nat) (x : Bool) : (bst n f).set i x = bst n (fun j => if j = i then x else f j) := by
  apply List.ext_getElem?
  intro j
  simp only [bst, List.getElem?_set, List.length_map, List.length_range, List.getElem?_map]
  by_cases hj : i = j
  · subst hj
    by_cases hi : i < n <;> simp [hi]
  · rw [if_neg hj]
    by_cases hj2 : j < n
    · simp [hj2, Ne.symm hj]
    · simp [hj2]
theorem bst_rep (n : Nat) (b : Bool) : List.replicate n b = bst n fun _ => b := by
  apply List.ext_getElem?
  intro j
  by_cases hj : j < n <;> simp [bst, hj]
theorem upd_val (g : GS) (i : Nat) (c : Con) (n : Nat) : lst n (fun j => if j = c.a then g.val c.b + c.N else g.val j) = lst n (g.upd i c).val := rfl
theorem upd_kn (g : GS) (i : Nat) (c : Con) (n : Nat) : bst n (fun j => decide (j = c.a) || g.kn j) = bst n (g.upd i c).kn := by
  unfold bst
  refine List.map_congr_left fun x _ => ?_
  simp only [GS.upd]
  by_cases h : x = c.a <;> simp [h]
theorem upd_pre (d : Int) (g : GS) (i : Nat) (c : Con) (n : Nat) : lst n (fun j => if j = c.a then (i : Int) else preI d g j) = lst n (preI d (g.upd i c)) := by
  refine lst_ext fun x _ => ?_
  simp only [preI, GS.upd]
  by_cases h : x = c.a
  · simp [h]
  · simp [h]
theorem Bd.small {t : Nat} {g : GS} (h : Bd t g) (ht : t ≤ 4000000) (x : Nat) : -4398046511104000000 ≤ g.val x ∧ g.val x ≤ 4398046511104000000 := by
  have h1 := h x
  have h2 : maxN * (t : Int) ≤ maxN * 4000000 := Int.mul_le_mul_of_nonneg_left (by omega) (by decide)
  simp only [maxN] at h1 h2
  omega
def stR (l : List Con) (g : GS) (i : Nat) : GS × Int := (List.range i).foldl (relR l) (g, -1)
theorem stR_succ (l : List Con) (g : GS) (i : Nat) : stR l g (i + 1) = relR l (stR l g i) i := by rw [stR, List.range_succ, List.foldl_append]; rfl
attribute [local simp] hcons hstep evPure opd uOf putOK St.put St.at getK binD binI binS binB nilD aggD eqUs cmpK lookD lookR rangeD Go.VL.nextD entryD keyD valU keyU lookK mkV entD_nil lookK_entD updK_entD1 updK_entD2 updK_entD3 allUE allUE_entD makeMapD mapUpdD mapEff updK valM Key.kk shiftI arith unD convD pickD loadD cellsAt fieldAddrD fieldD indexAddrD indexD sliceD cutD lenD minmaxD nilCheckD buildD fillD cellsD isOne ones setAll mkAgg allU allocD boxD storeD St.add buildSliceD appendD rowsOf makeD setOb getK_setOb getK_del getK_cons stripL strip guardTmp entry chunks zcells valD argsV argsW argW argU1 argU0 argsU0 argsU1 calleeOf scalarD scalarU delAll effD St.effS RK_seq RK_seq_ret RK_seq_exit RK_blk RK_blk_ret RK_blk_exit RK_loop RK_loop_ret RK_loop_exit RK_done vs_seq vs_block vs_skip vs_label vs_exit vs_ret vs_cond vs_region vs_loop vs_draw vs_range vs_scope applyW mkD rdIds lentIds callOf calleeOf freeOp D.ids Op.operands Call.operands isEffOp makeIfD typeAssertD conc concs conc1 uOfV panicD IntKind.bits allU2 allU2_append List.take_of_length_le List.range_succ
attribute [local irreducible] V G H HD HD2 RunK Eff CallP CallV EndOK Fun Ret FinOK LoopI LoopW EndW
theorem relax_ret (n : Nat) (l : List Con) (g : GS) (d : Int) (hl : OkC n l) (hll : l.length ≤ 2000) (hbd : ∀ i, i ≤ l.length → ∃ t, t ≤ 4000000 ∧ Bd t (stR l g i).1) :
    Ret Try.prog 26 [.u (consU l), .vec 0 n, .vec 1 n, .vec 2 n] [(0, .vec 3 1 (intR (lst n g.val))), (1, .vec 4 1 (boolR (bst n g.kn))), (2, .vec 3 1 (intR (lst n (preI d g))))] 3
      fun q obs nx' => q = .u (.int .i64 (sweepR l g).2) ∧ obs = [(0, .vec 3 1 (intR (lst n (sweepR l g).1.val))), (1, .vec 4 1 (boolR (bst n (sweepR l g).1.kn))), (2, .vec 3 1 (intR (lst n (preI d (sweepR l g).1))))] ∧ nx' = 3 := by
  simp only [consU]
  (refine Ret.of_bodyW Try.func26 rfl (by simp) fun Γ hn => ?_); simp only [entry, List.zipIdx_cons, List.zipIdx_nil, List.map_cons, List.map_nil, Nat.zero_add, Try.ntmps26]
  repeat' (first
    | (refine H_cons ?_; simp)
    | (refine H_nil ?_; simp)
    | (refine V_sseq ?_; simp)
    | (refine V_sblock ?_; simp)
    | fail)
  refine V_loopO (α := { i : Nat // i ≤ l.length }) [0, 1, 2, 3] (fun i => [(9, .u (.int .i64 (stR l g i.1).2)), (10, .u (.int .i64 i.1))])
    (fun i => [(0, .vec 3 1 (intR (lst n (stR l g i.1).1.val))), (1, .vec 4 1 (boolR (bst n (stR l g i.1).1.kn))), (2, .vec 3 1 (intR (lst n (preI d (stR l g i.1).1))))]) 3 (fun i => l.length - i.1) ⟨0, by omega⟩ ?_ ?_
  · exact (Wk.cut rfl (by simp [hn, St.lp]) (by simp [wkO, St.lp, getK_cons, getK, Ob.under, D.under, under_rowsD, under_entD, pure_intR, under_intR, pure_boolR, under_boolR, stR]) (by simp [wkU, St.lp, keepE, getK_cons, getK, D.under, pure_intR, under_intR, pure_boolR, under_boolR, stR]) (by simp [wkE, St.lp, keepE, getK_cons, getK, pure_intR, under_intR, pure_boolR, under_boolR, stR] <;> (try (intros; simp_all; done)) <;> (try (intros; omega)) <;> (try grind)))
  rintro ⟨i, hi⟩
  simp [St.lp, St.only, keepE, getK_cons, getK]
  rcases hx : l[i]? with _ | c
  · have hge : l.length ≤ i := by simpa using hx
    obtain rfl : i = l.length := by omega
    rw [show stR l g l.length = sweepR l g from rfl]
    repeat' (first
    | (refine H_cons ?_; simp [hx])
    | (refine H_nil ?_; simp [hx])
    | (refine V_sseq ?_; simp [hx])
    | (refine V_scond ?_; simp [hx])
    | (refine V_ret ?_; simp only [RK_seq, RK_seq_ret, RK_seq_exit, RK_blk, RK_blk_ret, RK_blk_exit, RK_loop, RK_loop_ret, RK_loop_exit, RK_done])
    | (refine V_exit ?_; simp [RK_seq, RK_seq_ret, RK_seq_exit, RK_blk, RK_blk_ret, RK_blk_exit, RK_loop, RK_loop_ret, RK_loop_exit, RK_done])
    | fail)
    refine EndW.here ?_
    (first | (refine EndOK.fin (.inr rfl) ?_) | (refine EndOK.fin (.inl rfl) ?_)); simp [resD, oneOrTup, Try.results26]
    exact FinOK.here (by simp) ⟨rfl, rfl, rfl⟩
  · have hlt : i < l.length := (List.getElem?_eq_some_iff.1 hx).1
    have hs1 := stR_succ l g i
    obtain ⟨t, ht, hbt⟩ := hbd i hi
    rcases hst : stR l g i with ⟨G, last⟩
    rw [hst] at hs1 hbt
    obtain ⟨ha0, han, hb0, hbn, hN1, hN2⟩ := hl c (List.mem_of_getElem? hx)
    have hva := hbt.small ht c.a
    have hvb := hbt.small ht c.b
    have hN3 : -1099511627776 ≤ c.N ∧ c.N ≤ 1099511627776 := ⟨hN1, hN2⟩
    have hau := upd_val G i c n
    have hku := upd_kn G i c n
    have hpu := upd_pre d G i c n
    have hrel : relR l (G, last) i = if G.can c = true then (G.upd i c, c.A) else (G, last) := by unfold relR; rw [hx]
    rw [hrel] at hs1
    unfold GS.can at hs1
    obtain ⟨A, B, N⟩ := c
    simp only [Con.a, Con.b] at *
    obtain ⟨a, rfl⟩ := Int.eq_ofNat_of_zero_le ha0
    obtain ⟨b, rfl⟩ := Int.eq_ofNat_of_zero_le hb0
    simp only [Int.toNat_natCast] at *
    have han' : a < n := by omega
    have hbn' : b < n := by omega
    cases hkb : G.kn b with
    | false =>
      simp only [hkb, Bool.false_and, Bool.false_eq_true, if_false] at hs1
      repeat' (first
    | (refine H_cons ?_; simp [hx, intR_len, intR_getE, lst_len, lst_getE, boolR_len, boolR_getE, bst_len, bst_getE, hkb, han', hbn'])
    | (refine HD_cons ?_; simp [hx, intR_len, intR_getE, lst_len, lst_getE, boolR_len, boolR_getE, bst_len, bst_getE, hkb, han', hbn'])
    | (refine H_nil ?_; simp [hx, intR_len, intR_getE, lst_len, lst_getE, boolR_len, boolR_getE, bst_len, bst_getE, hkb, han', hbn'])
    | (refine ⟨by omega, ?_⟩)
    | (refine V_sseq ?_; simp [hx, intR_len, intR_getE, lst_len, lst_getE, boolR_len, boolR_getE, bst_len, bst_getE, hkb, han', hbn'])
    | (refine V_scond ?_; simp [hx, intR_len, intR_getE, lst_len, lst_getE, boolR_len, boolR_getE, bst_len, bst_getE, hkb, han', hbn'])
    | (refine HD_nil ?_)
    | (refine hk _ ?_; clear hk k; simp only [RK_seq, RK_seq_ret, RK_seq_exit, RK_blk, RK_blk_ret, RK_blk_exit, RK_loop, RK_loop_ret, RK_loop_exit, RK_done])
    | (refine V_drawV rfl (by kernel_rfl) (by kernel_rfl) fun k hk => ?_; simp [hx, intR_len, intR_getE, lst_len, lst_getE, boolR_len, boolR_getE, bst_len, bst_getE, hkb, han', hbn'])
    | (refine HD_guardU rfl (by simp [hx, intR_len, intR_getE, lst_len, lst_getE, boolR_len, boolR_getE, bst_len, bst_getE, hkb, han', hbn']) ?_; simp [hx, intR_len, intR_getE, lst_len, lst_getE, boolR_len, boolR_getE, bst_len, bst_getE, hkb, han', hbn'])
    | (refine HD_guard rfl (by simp [hx, intR_len, intR_getE, lst_len, lst_getE, boolR_len, boolR_getE, bst_len, bst_getE, hkb, han', hbn']) (fun hc => ?_) (fun hc => ?_) <;> (try simp [hx, intR_len, intR_getE, lst_len, lst_getE, boolR_len, boolR_getE, bst_len, bst_getE, hkb, han', hbn'] at hc) <;> (try (exfalso; omega)) <;> (try simp [hx, intR_len, intR_getE, lst_len, lst_getE, boolR_len, boolR_getE, bst_len, bst_getE, hkb, han', hbn']))
    | (refine V_sregion ?_; simp [hx, intR_len, intR_getE, lst_len, lst_getE, boolR_len, boolR_getE, bst_len, bst_getE, hkb, han', hbn'])
    | (refine V_skip ?_; simp only [RK_seq, RK_seq_ret, RK_seq_exit, RK_blk, RK_blk_ret, RK_blk_exit, RK_loop, RK_loop_ret, RK_loop_exit, RK_done])
    | (refine ⟨?_, by omega⟩)
    | (intro hc <;> (try (exfalso; omega)))
    | fail)
      refine LoopW.next ⟨i + 1, by omega⟩ (by simp; omega) ?_
      exact (Wk.cut rfl (by simp [hn, St.lp]) (by simp [wkO, St.lp, getK_cons, getK, Ob.under, D.under, under_rowsD, under_entD, pure_intR, under_intR, pure_boolR, under_boolR, hs1]) (by simp [wkU, St.lp, keepE, getK_cons, getK, D.under, pure_intR, under_intR, pure_boolR, under_boolR, hs1]) (by simp [wkE, St.lp, keepE, getK_cons, getK, pure_intR, under_intR, pure_boolR, under_boolR, hs1] <;> (try (intros; simp_all; done)) <;> (try (intros; omega)) <;> (try grind)))
    | true =>
      cases hka : G.kn a with
      | false =>
        simp only [hkb, hka, Bool.true_and, Bool.not_false, Bool.true_or, if_true] at hs1
        repeat' (first
    | (refine H_cons ?_; simp [hx, intR_len, intR_getE, intR_set, lst_len, lst_getE, lst_set, boolR_len, boolR_getE, boolR_set, bst_len, bst_getE, bst_set, hkb, hka, han', hbn', hau, hku, hpu])
    | (refine HD2_val rfl ?_; simp [hx, intR_len, intR_getE, intR_set, lst_len, lst_getE, lst_set, boolR_len, boolR_getE, boolR_set, bst_len, bst_getE, bst_set, hkb, hka, han', hbn', hau, hku, hpu])
    | (refine HD_cons ?_; simp [hx, intR_len, intR_getE, intR_set, lst_len, lst_getE, lst_set, boolR_len, boolR_getE, boolR_set, bst_len, bst_getE, bst_set, hkb, hka, han', hbn', hau, hku, hpu])
    | (refine HD2_chg rfl ?_; simp [hx, intR_len, intR_getE, intR_set, lst_len, lst_getE, lst_set, boolR_len, boolR_getE, boolR_set, bst_len, bst_getE, bst_set, hkb, hka, han', hbn', hau, hku, hpu])
    | (refine H_nil ?_; simp [hx, intR_len, intR_getE, intR_set, lst_len, lst_getE, lst_set, boolR_len, boolR_getE, boolR_set, bst_len, bst_getE, bst_set, hkb, hka, han', hbn', hau, hku, hpu])
    | (refine ⟨by omega, ?_⟩)
    | (refine V_sseq ?_; simp [hx, intR_len, intR_getE, intR_set, lst_len, lst_getE, lst_set, boolR_len, boolR_getE, boolR_set, bst_len, bst_getE, bst_set, hkb, hka, han', hbn', hau, hku, hpu])
    | (refine V_scond ?_; simp [hx, intR_len, intR_getE, intR_set, lst_len, lst_getE, lst_set, boolR_len, boolR_getE, boolR_set, bst_len, bst_getE, bst_set, hkb, hka, han', hbn', hau, hku, hpu])
    | (refine HD2_nil (hC _ (by kernel_rfl)) (hk _ ?_); clear hC hk C k; simp only [RK_seq, RK_seq_ret, RK_seq_exit, RK_blk, RK_blk_ret, RK_blk_exit, RK_loop, RK_loop_ret, RK_loop_exit, RK_done])
    | (refine HD_nil ?_)
    | (refine hk _ ?_; clear hk k; simp only [RK_seq, RK_seq_ret, RK_seq_exit, RK_blk, RK_blk_ret, RK_blk_exit, RK_loop, RK_loop_ret, RK_loop_exit, RK_done])
    | (refine V_drawV rfl (by kernel_rfl) (by kernel_rfl) fun k hk => ?_; simp [hx, intR_len, intR_getE, intR_set, lst_len, lst_getE, lst_set, boolR_len, boolR_getE, boolR_set, bst_len, bst_getE, bst_set, hkb, hka, han', hbn', hau, hku, hpu])
    | (refine V_drawE rfl (by kernel_rfl) (by kernel_rfl) (by simp [hn]) fun C k hC hk => ?_; simp [hx, intR_len, intR_getE, intR_set, lst_len, lst_getE, lst_set, boolR_len, boolR_getE, boolR_set, bst_len, bst_getE, bst_set, hkb, hka, han', hbn', hau, hku, hpu])
    | (refine HD_guard rfl (by simp [hx, intR_len, intR_getE, intR_set, lst_len, lst_getE, lst_set, boolR_len, boolR_getE, boolR_set, bst_len, bst_getE, bst_set, hkb, hka, han', hbn', hau, hku, hpu]) (fun hc => ?_) (fun hc => ?_) <;> (try simp [hx, intR_len, intR_getE, intR_set, lst_len, lst_getE, lst_set, boolR_len, boolR_getE, boolR_set, bst_len, bst_getE, bst_set, hkb, hka, han', hbn', hau, hku, hpu] at hc) <;> (try (exfalso; omega)) <;> (try simp [hx, intR_len, intR_getE, intR_set, lst_len, lst_getE, lst_set, boolR_len, boolR_getE, boolR_set, bst_len, bst_getE, bst_set, hkb, hka, han', hbn', hau, hku, hpu]))
    | (refine V_sregion ?_; simp [hx, intR_len, intR_getE, intR_set, lst_len, lst_getE, lst_set, boolR_len, boolR_getE, boolR_set, bst_len, bst_getE, bst_set, hkb, hka, han', hbn', hau, hku, hpu])
    | (refine V_skip ?_; simp only [RK_seq, RK_seq_ret, RK_seq_exit, RK_blk, RK_blk_ret, RK_blk_exit, RK_loop, RK_loop_ret, RK_loop_exit, RK_done])
    | (refine ⟨?_, by omega⟩)
    | (intro hc <;> (try (exfalso; omega)))
    | fail)
        refine LoopW.next ⟨i + 1, by omega⟩ (by simp; omega) ?_
        exact (Wk.cut rfl (by simp [hn, St.lp]) (by simp [wkO, St.lp, getK_cons, getK, Ob.under, D.under, under_rowsD, under_entD, pure_intR, under_intR, pure_boolR, under_boolR, hs1]) (by simp [wkU, St.lp, keepE, getK_cons, getK, D.under, pure_intR, under_intR, pure_boolR, under_boolR, hs1]) (by simp [wkE, St.lp, keepE, getK_cons, getK, pure_intR, under_intR, pure_boolR, under_boolR, hs1] <;> (try (intros; simp_all; done)) <;> (try (intros; omega)) <;> (try grind)))
      | true =>
        by_cases hlt2 : G.val b + N < G.val a
        · simp only [hkb, hka, Bool.true_and, Bool.not_true, Bool.false_or, decide_eq_true hlt2, if_true] at hs1
          repeat' (first
    | (refine H_cons ?_; simp [hx, intR_len, intR_getE, intR_set, lst_len, lst_getE, lst_set, boolR_len, boolR_getE, boolR_set, bst_len, bst_getE, bst_set, hkb, hka, han', hbn', hau, hku, hpu, hlt2])
    | (refine HD2_val rfl ?_; simp [hx, intR_len, intR_getE, intR_set, lst_len, lst_getE, lst_set, boolR_len, boolR_getE, boolR_set, bst_len, bst_getE, bst_set, hkb, hka, han', hbn', hau, hku, hpu, hlt2])
    | (refine HD_cons ?_; simp [hx, intR_len, intR_getE, intR_set, lst_len, lst_getE, lst_set, boolR_len, boolR_getE, boolR_set, bst_len, bst_getE, bst_set, hkb, hka, han', hbn', hau, hku, hpu, hlt2])
    | (refine HD2_chg rfl ?_; simp [hx, intR_len, intR_getE, intR_set, lst_len, lst_getE, lst_set, boolR_len, boolR_getE, boolR_set, bst_len, bst_getE, bst_set, hkb, hka, han', hbn', hau, hku, hpu, hlt2])
    | (refine H_nil ?_; simp [hx, intR_len, intR_getE, intR_set, lst_len, lst_getE, lst_set, boolR_len, boolR_getE, boolR_set, bst_len, bst_getE, bst_set, hkb, hka, han', hbn', hau, hku, hpu, hlt2])
    | (refine ⟨by omega, ?_⟩)
    | (refine V_sseq ?_; simp [hx, intR_len, intR_getE, intR_set, lst_len, lst_getE, lst_set, boolR_len, boolR_getE, boolR_set, bst_len, bst_getE, bst_set, hkb, hka, han', hbn', hau, hku, hpu, hlt2])
    | (refine V_scond ?_; simp [hx, intR_len, intR_getE, intR_set, lst_len, lst_getE, lst_set, boolR_len, boolR_getE, boolR_set, bst_len, bst_getE, bst_set, hkb, hka, han', hbn', hau, hku, hpu, hlt2])
    | (refine HD2_nil (hC _ (by kernel_rfl)) (hk _ ?_); clear hC hk C k; simp only [RK_seq, RK_seq_ret, RK_seq_exit, RK_blk, RK_blk_ret, RK_blk_exit, RK_loop, RK_loop_ret, RK_loop_exit, RK_done])
    | (refine HD_nil ?_)
    | (refine hk _ ?_; clear hk k; simp only [RK_seq, RK_seq_ret, RK_seq_exit, RK_blk, RK_blk_ret, RK_blk_exit, RK_loop, RK_loop_ret, RK_loop_exit, RK_done])
    | (refine V_drawV rfl (by kernel_rfl) (by kernel_rfl) fun k hk => ?_; simp [hx, intR_len, intR_getE, intR_set, lst_len, lst_getE, lst_set, boolR_len, boolR_getE, boolR_set, bst_len, bst_getE, bst_set, hkb, hka, han', hbn', hau, hku, hpu, hlt2])
    | (refine V_drawE rfl (by kernel_rfl) (by kernel_rfl) (by simp [hn]) fun C k hC hk => ?_; simp [hx, intR_len, intR_getE, intR_set, lst_len, lst_getE, lst_set, boolR_len, boolR_getE, boolR_set, bst_len, bst_getE, bst_set, hkb, hka, han', hbn', hau, hku, hpu, hlt2])
    | (refine HD_guard rfl (by simp [hx, intR_len, intR_getE, intR_set, lst_len, lst_getE, lst_set, boolR_len, boolR_getE, boolR_set, bst_len, bst_getE, bst_set, hkb, hka, han', hbn', hau, hku, hpu, hlt2]) (fun hc => ?_) (fun hc => ?_) <;> (try simp [hx, intR_len, intR_getE, intR_set, lst_len, lst_getE, lst_set, boolR_len, boolR_getE, boolR_set, bst_len, bst_getE, bst_set, hkb, hka, han', hbn', hau, hku, hpu, hlt2] at hc) <;> (try (exfalso; omega)) <;> (try simp [hx, intR_len, intR_getE, intR_set, lst_len, lst_getE, lst_set, boolR_len, boolR_getE, boolR_set, bst_len, bst_getE, bst_set, hkb, hka, han', hbn', hau, hku, hpu, hlt2]))
    | (refine V_sregion ?_; simp [hx, intR_len, intR_getE, intR_set, lst_len, lst_getE, lst_set, boolR_len, boolR_getE, boolR_set, bst_len, bst_getE, bst_set, hkb, hka, han', hbn', hau, hku, hpu, hlt2])
    | (refine V_skip ?_; simp only [RK_seq, RK_seq_ret, RK_seq_exit, RK_blk, RK_blk_ret, RK_blk_exit, RK_loop, RK_loop_ret, RK_loop_exit, RK_done])
    | (refine ⟨?_, by omega⟩)
    | (intro hc <;> (try (exfalso; omega)))
    | fail)
          refine LoopW.next ⟨i + 1, by omega⟩ (by simp; omega) ?_
          exact (Wk.cut rfl (by simp [hn, St.lp]) (by simp [wkO, St.lp, getK_cons, getK, Ob.under, D.under, under_rowsD, under_entD, pure_intR, under_intR, pure_boolR, under_boolR, hs1]) (by simp [wkU, St.lp, keepE, getK_cons, getK, D.under, pure_intR, under_intR, pure_boolR, under_boolR, hs1]) (by simp [wkE, St.lp, keepE, getK_cons, getK, pure_intR, under_intR, pure_boolR, under_boolR, hs1] <;> (try (intros; simp_all; done)) <;> (try (intros; omega)) <;> (try grind)))
        · simp only [hkb, hka, Bool.true_and, Bool.not_true, Bool.false_or, decide_eq_false hlt2, Bool.false_eq_true, if_false] at hs1
          repeat' (first
    | (refine H_cons ?_; simp [hx, intR_len, intR_getE, lst_len, lst_getE, boolR_len, boolR_getE, bst_len, bst_getE, hkb, hka, han', hbn', hlt2])
    | (refine HD_cons ?_; simp [hx, intR_len, intR_getE, lst_len, lst_getE, boolR_len, boolR_getE, bst_len, bst_getE, hkb, hka, han', hbn', hlt2])
    | (refine H_nil ?_; simp [hx, intR_len, intR_getE, lst_len, lst_getE, boolR_len, boolR_getE, bst_len, bst_getE, hkb, hka, han', hbn', hlt2])
    | (refine ⟨by omega, ?_⟩)
    | (refine V_sseq ?_; simp [hx, intR_len, intR_getE, lst_len, lst_getE, boolR_len, boolR_getE, bst_len, bst_getE, hkb, hka, han', hbn', hlt2])
    | (refine V_scond ?_; simp [hx, intR_len, intR_getE, lst_len, lst_getE, boolR_len, boolR_getE, bst_len, bst_getE, hkb, hka, han', hbn', hlt2])
    | (refine HD_nil ?_)
    | (refine hk _ ?_; clear hk k; simp only [RK_seq, RK_seq_ret, RK_seq_exit, RK_blk, RK_blk_ret, RK_blk_exit, RK_loop, RK_loop_ret, RK_loop_exit, RK_done])
    | (refine V_drawV rfl (by kernel_rfl) (by kernel_rfl) fun k hk => ?_; simp [hx, intR_len, intR_getE, lst_len, lst_getE, boolR_len, boolR_getE, bst_len, bst_getE, hkb, hka, han', hbn', hlt2])
    | (refine HD_guard rfl (by simp [hx, intR_len, intR_getE, lst_len, lst_getE, boolR_len, boolR_getE, bst_len, bst_getE, hkb, hka, han', hbn', hlt2]) (fun hc => ?_) (fun hc => ?_) <;> (try simp [hx, intR_len, intR_getE, lst_len, lst_getE, boolR_len, boolR_getE, bst_len, bst_getE, hkb, hka, han', hbn', hlt2] at hc) <;> (try (exfalso; omega)) <;> (try simp [hx, intR_len, intR_getE, lst_len, lst_getE, boolR_len, boolR_getE, bst_len, bst_getE, hkb, hka, han', hbn', hlt2]))
    | (refine V_sregion ?_; simp [hx, intR_len, intR_getE, lst_len, lst_getE, boolR_len, boolR_getE, bst_len, bst_getE, hkb, hka, han', hbn', hlt2])
    | (refine V_skip ?_; simp only [RK_seq, RK_seq_ret, RK_seq_exit, RK_blk, RK_blk_ret, RK_blk_exit, RK_loop, RK_loop_ret, RK_loop_exit, RK_done])
    | (refine ⟨?_, by omega⟩)
    | (intro hc <;> (try (exfalso; omega)))
    | fail)
          refine LoopW.next ⟨i + 1, by omega⟩ (by simp; omega) ?_
          exact (Wk.cut rfl (by simp [hn, St.lp]) (by simp [wkO, St.lp, getK_cons, getK, Ob.under, D.under, under_rowsD, under_entD, pure_intR, under_intR, pure_boolR, under_boolR, hs1]) (by simp [wkU, St.lp, keepE, getK_cons, getK, D.under, pure_intR, under_intR, pure_boolR, under_boolR, hs1]) (by simp [wkE, St.lp, keepE, getK_cons, getK, pure_intR, under_intR, pure_boolR, under_boolR, hs1] <;> (try (intros; simp_all; done)) <;> (try (intros; omega)) <;> (try grind)))
end Go.Proofs.Ytdkadmchdocjbaa
