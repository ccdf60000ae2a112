/- Layer 13: the reference: Most: the walk. -/
import Derived.Test.YtdkadmchdocjbaaDl
set_option linter.all false
set_option maxRecDepth 100000
set_option maxHeartbeats 8000000
set_option linter.all false
namespace Go.Proofs.Ytdkadmchdocjbaa
open Go Go.VL
theorem one_kn (m b : Nat) : (List.replicate m false).set b true = bst m (GS.zero (bgOne b)).kn := by
  rw [bst_rep, bst_set]
  unfold bst
  refine List.map_congr_left fun x _ => ?_
  by_cases h : x = b <;> simp [GS.zero, bgOne, h]
theorem one_pre (m : Nat) (bg : Nat → Bool) : List.replicate m (0 : Int) = lst m (preI 0 (GS.zero bg)) := by rw [lst_rep]; rfl
def condM (l : List Con) (n a b : Int) : Bool := rightL l n && (decide (0 ≤ a) && decide (a < n) && (decide (0 ≤ b) && decide (b < n)))
theorem most_arg {l : List Con} {n a b : Int} (h : condM l n a b = false) : MostSpec l n a b 0 [] 1 := .inl ⟨h, rfl, rfl, rfl⟩
theorem most_bad {l : List Con} {n a b : Int} (h : condM l n a b = true) (hu : ∀ y, ¬ Sol l y) : MostSpec l n a b 0 [] 23 := .inr ⟨h, .inl ⟨hu, rfl, rfl, rfl⟩⟩
theorem condM_out {l : List Con} {n a b : Int} (h : condM l n a b = true) : rightL l n = true ∧ 0 ≤ a ∧ a < n ∧ 0 ≤ b ∧ b < n := by
  simp only [condM, Bool.and_eq_true, decide_eq_true_eq] at h
  exact ⟨h.1, h.2.1.1, h.2.1.2, h.2.2.1, h.2.2.2⟩
/-- What the search from one variable ends with, as it is told. -/
theorem most_none {l : List Con} {n a b : Nat} {t : Nat} {g : GS} {y : Nat → Int} (h : condM l n a b = true) (hy : Sol l y) (ho : Outcome n l (bgOne b) t g (-1)) (ht : t ≤ (n + 1) * (n * l.length)) (hk : g.kn a = false) : MostSpec l n a b 0 [] 4 := by
  obtain ⟨hi, hb, h1 | ⟨h1, _⟩⟩ := ho
  · refine .inr ⟨h, .inr ⟨⟨y, hy⟩, g, by simpa using hi, h1.2, fun x => ?_, .inl ⟨by simpa using hk, rfl, rfl, rfl⟩⟩⟩
    have := (hb.mono ht) x
    simp only [Int.toNat_natCast, bnd]
    omega
  · omega
theorem most_some {l : List Con} {n a b k : Nat} {t : Nat} {g : GS} {y : Nat → Int} (d : Int) (h : condM l n a b = true) (hy : Sol l y) (hl : OkC n l) (ho : Outcome n l (bgOne b) t g (-1)) (ht : t ≤ (n + 1) * (n * l.length)) (hk : g.kn a = true)
    (hkn : k < n) (ha : al l g k a) (he : it l g k a = b) : MostSpec l n a b (g.val a) (pl l d g k a).reverse 0 := by
  obtain ⟨hi, hb, h1 | ⟨h1, _⟩⟩ := ho
  · refine .inr ⟨h, .inr ⟨⟨y, hy⟩, g, by simpa using hi, h1.2, fun x => ?_, .inr ⟨by simpa using hk, by simp, rfl, by simp [pl_len]; exact hkn, ?_⟩⟩⟩
    · have := (hb.mono ht) x
      simp only [Int.toNat_natCast, bnd]
      omega
    · have h2 := sum_pl d hl hi k a ha
      have h3 := h1.2.along hi k a ha
      have h4 := (Fix.ends hl hy hi h1.2).2.1
      rw [he] at h2 h3
      rw [h2]
      have : sm l g k a = g.val a := by omega
      rw [this]
  · omega
theorem Outcome.feasible {n : Nat} {l : List Con} {bg t g ret y} (hl : OkC n l) (h : Outcome n l bg t g ret) (hy : Sol l y) : ret = -1 ∧ Fix l g := by
  obtain ⟨hi, hb, h1 | h1⟩ := h
  · exact h1
  · exact absurd hy (Outcome.unsat hl ⟨hi, hb, .inr h1⟩ (by omega) y)
attribute [local simp] hcons hstep evPure opd uOf putOK St.put St.at getK binD binI binS binB nilD aggD eqUs cmpK lookD lookR rangeD Go.VL.nextD entryD keyD valU keyU lookK mkV entD_nil lookK_entD updK_entD1 updK_entD2 updK_entD3 allUE allUE_entD makeMapD mapUpdD mapEff updK valM Key.kk shiftI arith unD convD pickD loadD cellsAt fieldAddrD fieldD indexAddrD indexD sliceD cutD lenD minmaxD nilCheckD buildD fillD cellsD isOne ones setAll mkAgg allU allocD boxD storeD St.add buildSliceD appendD rowsOf makeD setOb getK_setOb getK_del getK_cons stripL strip guardTmp entry chunks zcells valD argsV argsW argW argU1 argU0 argsU0 argsU1 calleeOf scalarD scalarU delAll effD St.effS RK_seq RK_seq_ret RK_seq_exit RK_blk RK_blk_ret RK_blk_exit RK_loop RK_loop_ret RK_loop_exit RK_done vs_seq vs_block vs_skip vs_label vs_exit vs_ret vs_cond vs_region vs_loop vs_draw vs_range vs_scope applyW mkD rdIds lentIds callOf calleeOf freeOp D.ids Op.operands Call.operands isEffOp makeIfD typeAssertD conc concs conc1 uOfV panicD IntKind.bits allU2 allU2_append List.take_of_length_le List.range_succ
attribute [local irreducible] V G H HD HD2 RunK Eff CallP CallV EndOK Fun Ret FinOK LoopI LoopW EndW
theorem rmost_ex (l : List Con) (n a b : Int) : ∃ M C E, MostSpec l n a b M C E ∧ Fun Try.prog 12 [.u (consU l), .u (.int .i64 n), .u (.int .i64 a), .u (.int .i64 b)] (· = .tup [.u (.int .i64 M), .u (ints C), .u (.int .i64 E)]) := by
  have h0 := rright_fun l n
  by_cases hcond : condM l n a b = true
  case neg =>
    have hc2 : condM l n a b = false := by simpa using hcond
    refine ⟨_, _, _, most_arg hc2, ?_⟩
    simp only [condM, Bool.and_eq_true, decide_eq_true_eq] at hcond
    by_cases hr : rightL l n = true
    · rw [hr] at h0
      (refine Fun.of_bodyW Try.func12 rfl (by simp) fun Γ hn => ?_); simp only [entry, List.zipIdx_cons, List.zipIdx_nil, List.map_cons, List.map_nil, Nat.zero_add, Try.ntmps12]
      simp only [consU, ints] at h0 ⊢
      repeat' (first
    | (refine H_cons ?_; simp)
    | (refine H_nil ?_; simp)
    | (refine V_sseq ?_; simp)
    | (refine V_scond ?_; simp)
    | (refine V_ret ?_; simp only [RK_seq, RK_seq_ret, RK_seq_exit, RK_blk, RK_blk_ret, RK_blk_exit, RK_loop, RK_loop_ret, RK_loop_exit, RK_done])
    | (refine V_skip ?_; simp only [RK_seq, RK_seq_ret, RK_seq_exit, RK_blk, RK_blk_ret, RK_blk_exit, RK_loop, RK_loop_ret, RK_loop_exit, RK_done])
    | (refine ⟨fun hc => ?_, fun hc => ?_⟩ <;> (try (exfalso; omega)))
    | (refine CallP.fun_ (h0) (by first | rfl | fail) (by first | assumption | (simp; done) | fail) (by first | (simp; done) | (simp; rfl) | fail) (by first | (simp; done) | fail) (fun d hd => ?_); subst hd; (try simp))
    | fail)
      all_goals first
        | (exfalso; simp [hr] at hcond; omega)
        | (refine EndW.norm (EndW.here ?_); (refine EndOK.val (.inr rfl) ?_; simp [resD, oneOrTup, pureD, Try.results12, frz_obs, frz_env, norm_obs, norm_env, frz, frzOb, frzS, fv, fzVec, fzMap, fzBox, frzObS, frz_entD, frz_rowsD, normD, normU, norm1, normOb]); done)
    · have hr2 : rightL l n = false := by simpa using hr
      rw [hr2] at h0
      (refine Fun.of_bodyW Try.func12 rfl (by simp) fun Γ hn => ?_); simp only [entry, List.zipIdx_cons, List.zipIdx_nil, List.map_cons, List.map_nil, Nat.zero_add, Try.ntmps12]
      simp only [consU, ints] at h0 ⊢
      repeat' (first
    | (refine H_cons ?_; simp)
    | (refine H_nil ?_; simp)
    | (refine V_sseq ?_; simp)
    | (refine V_scond ?_; simp)
    | (refine V_ret ?_; simp only [RK_seq, RK_seq_ret, RK_seq_exit, RK_blk, RK_blk_ret, RK_blk_exit, RK_loop, RK_loop_ret, RK_loop_exit, RK_done])
    | (refine CallP.fun_ (h0) (by first | rfl | fail) (by first | assumption | (simp; done) | fail) (by first | (simp; done) | (simp; rfl) | fail) (by first | (simp; done) | fail) (fun d hd => ?_); subst hd; (try simp))
    | fail)
      refine EndW.norm (EndW.here ?_)
      (refine EndOK.val (.inr rfl) ?_; simp [resD, oneOrTup, pureD, Try.results12, frz_obs, frz_env, norm_obs, norm_env, frz, frzOb, frzS, fv, fzVec, fzMap, fzBox, frzObS, frz_entD, frz_rowsD, normD, normU, norm1, normOb])
  obtain ⟨hr, ha0, han, hb0, hbn⟩ := condM_out hcond
  obtain ⟨V, C, E, hspec, h1⟩ := rsolve_ex l n
  rw [hr] at h0
  obtain ⟨e1, e2, e3, e4⟩ := rightL_out hr
  generalize hN : n.toNat = m at e1 e2 e4
  subst e1
  obtain ⟨A, rfl⟩ := Int.eq_ofNat_of_zero_le ha0
  obtain ⟨B, rfl⟩ := Int.eq_ofNat_of_zero_le hb0
  rcases hspec with ⟨hx, _⟩ | ⟨_, ⟨y, hgr, _, rfl, rfl, rfl⟩ | ⟨hun, rfl, rfl, _⟩⟩
  · rw [hr] at hx; cases hx
  · have hy := hgr.sol
    have hbt : (m + 1) * l.length ≤ (m + 1) * (m * l.length) := Nat.mul_le_mul_left _ (by rw [Nat.mul_comm]; exact Nat.le_mul_of_pos_right _ (by omega))
    have hout := loopR_out (bg := bgOne B) e4 (m + 1) 0 (SI.zero (bgOne B)) (by omega) (by omega)
    rcases hF : loopR l (m + 1) (GS.zero (bgOne B)) with ⟨gF, ret⟩
    rw [hF] at hout
    simp only [Nat.zero_add] at hout
    obtain ⟨rfl, hfix⟩ := hout.feasible e4 hy
    have hinv := hout.1
    have hBm : B < m := by omega
    have hAm : A < m := by omega
    cases hka : gF.kn A with
    | false =>
      refine ⟨_, _, _, most_none hcond hy hout hbt hka, ?_⟩
      clear hbt hout
      (refine Fun.of_bodyW Try.func12 rfl (by simp) fun Γ hn => ?_); simp only [entry, List.zipIdx_cons, List.zipIdx_nil, List.map_cons, List.map_nil, Nat.zero_add, Try.ntmps12]
      simp only [consU, ints] at h0 h1 ⊢
      have k1 := one_kn m B
      have k2 := one_pre m (bgOne B)
      have k3 := zero_val m (bgOne B)
      repeat' (first
    | (refine H_cons ?_; simp [ha0, han, hb0, hbn, intR_rep, boolR_rep, boolR_len, boolR_getE, boolR_set, hBm])
    | (refine H_nil ?_; simp [ha0, han, hb0, hbn, intR_rep, boolR_rep, boolR_len, boolR_getE, boolR_set, hBm])
    | (refine ⟨by omega, ?_⟩)
    | (refine V_sseq ?_; simp [ha0, han, hb0, hbn, intR_rep, boolR_rep, boolR_len, boolR_getE, boolR_set, hBm])
    | (refine V_scond ?_; simp [ha0, han, hb0, hbn, intR_rep, boolR_rep, boolR_len, boolR_getE, boolR_set, hBm])
    | (refine V_skip ?_; simp only [RK_seq, RK_seq_ret, RK_seq_exit, RK_blk, RK_blk_ret, RK_blk_exit, RK_loop, RK_loop_ret, RK_loop_exit, RK_done])
    | (refine ⟨?_, by omega⟩)
    | (intro hc <;> (try (exfalso; omega)))
    | (refine CallP.fun_ (h0) (by first | rfl | fail) (by first | assumption | (simp; done) | fail) (by first | (simp [ha0, han, hb0, hbn, intR_rep, boolR_rep, boolR_len, boolR_getE, boolR_set, hBm]; done) | (simp [ha0, han, hb0, hbn, intR_rep, boolR_rep, boolR_len, boolR_getE, boolR_set, hBm]; rfl) | fail) (by first | (simp; done) | fail) (fun d hd => ?_); subst hd; (try simp [ha0, han, hb0, hbn, intR_rep, boolR_rep, boolR_len, boolR_getE, boolR_set, hBm]))
    | (refine CallP.fun_ (h1) (by first | rfl | fail) (by first | assumption | (simp; done) | fail) (by first | (simp [ha0, han, hb0, hbn, intR_rep, boolR_rep, boolR_len, boolR_getE, boolR_set, hBm]; done) | (simp [ha0, han, hb0, hbn, intR_rep, boolR_rep, boolR_len, boolR_getE, boolR_set, hBm]; rfl) | fail) (by first | (simp; done) | fail) (fun d hd => ?_); subst hd; (try simp [ha0, han, hb0, hbn, intR_rep, boolR_rep, boolR_len, boolR_getE, boolR_set, hBm]))
    | fail)
      have q0 : loopR l (m + 1 - 0) (GS.zero (bgOne B)) = (gF, -1) := hF
      refine V_loopO (α := { s : Nat × GS × Int // (0 ≤ s.2.2 ∧ s.1 ≤ m ∧ (∃ t L, t ≤ s.1 * l.length ∧ SI m l (bgOne B) s.1 t s.2.1 L) ∧ loopR l (m + 1 - s.1) s.2.1 = (gF, -1)) ∨ (s.1 = m + 1 ∧ s.2.1 = gF ∧ s.2.2 < 0) }) [0, 2, 3, 14, 15, 16]
        (fun s => [(17, .u (.int .i64 s.1.2.2))])
        (fun s => [(0, .vec 3 1 (intR (lst m s.1.2.1.val))), (1, .vec 4 1 (boolR (bst m s.1.2.1.kn))), (2, .vec 3 1 (intR (lst m (preI 0 s.1.2.1))))]) 3 (fun s => m + 1 - s.1.1) ⟨(0, GS.zero (bgOne B), 0), .inl ⟨by simp, by omega, ⟨0, fun _ => 0, by simp, SI.zero _⟩, q0⟩⟩ ?_ ?_
      · exact (Wk.cut rfl (by simp [hn, St.lp]) (by simp [wkO, St.lp, getK_cons, getK, Ob.under, D.under, under_rowsD, under_entD, pure_intR, under_intR, pure_boolR, under_boolR, k1, ← k2, ← k3]) (by simp [wkU, St.lp, keepE, getK_cons, getK, D.under, pure_intR, under_intR, pure_boolR, under_boolR, k1, ← k2, ← k3]) (by simp [wkE, St.lp, keepE, getK_cons, getK, pure_intR, under_intR, pure_boolR, under_boolR, k1, ← k2, ← k3] <;> (try (intros; simp_all; done)) <;> (try (intros; omega)) <;> (try grind)))
      rintro ⟨⟨r, g, last⟩, hs⟩
      simp only at hs
      simp [St.lp, St.only, keepE, getK_cons, getK]
      rcases hs with ⟨hl0, hr1, ⟨t, L, ht, hSI⟩, hfin⟩ | ⟨rfl, rfl, hlr⟩
      · have htl : r * l.length ≤ 200 * l.length := Nat.mul_le_mul_right _ (by omega)
        have hrx := relax_ret m l g 0 e4 e3 (stR_bd e4 e3 hSI (by omega))
        simp only [consU] at hrx
        obtain ⟨f, hf⟩ : ∃ f, m + 1 - r = f + 1 := ⟨m - r, by omega⟩
        rw [hf, loopR] at hfin
        obtain ⟨L', hSM⟩ := hSI.sweep e4
        by_cases hlast : (sweepR l g).2 < 0
        · rw [if_pos (.inr hlast)] at hfin
          rw [hfin] at hrx hlast
          simp only at hrx hlast
          repeat' (first
    | (refine H_cons ?_; simp [hl0])
    | (refine H_nil ?_; simp [hl0])
    | (refine V_sseq ?_; simp [hl0])
    | (refine V_scond ?_; simp [hl0])
    | (refine V_sblock ?_; simp [hl0])
    | (refine V_skip ?_; simp only [RK_seq, RK_seq_ret, RK_seq_exit, RK_blk, RK_blk_ret, RK_blk_exit, RK_loop, RK_loop_ret, RK_loop_exit, RK_done])
    | (refine CallP.ret_ (hrx) (by rfl) (by first | assumption | simp) (by rfl) (by simp) ?_; rintro d o n' hn' ⟨rfl, rfl, rfl⟩; (try simp at hn'); (try simp [hl0]))
    | fail)
          refine LoopW.next ⟨(m + 1, gF, -1), .inr ⟨rfl, rfl, by simp⟩⟩ (by simp; omega) ?_
          exact (Wk.cut rfl (by simp [hn, St.lp]) (by simp [wkO, St.lp, getK_cons, getK, Ob.under, D.under, under_rowsD, under_entD, pure_intR, under_intR, pure_boolR, under_boolR]) (by simp [wkU, St.lp, keepE, getK_cons, getK, D.under, pure_intR, under_intR, pure_boolR, under_boolR]) (by simp [wkE, St.lp, keepE, getK_cons, getK, pure_intR, under_intR, pure_boolR, under_boolR] <;> (try (intros; simp_all; done)) <;> (try (intros; omega)) <;> (try grind)))
        · have hf0 : ¬ f = 0 := fun hf0 => by
            rw [if_pos (.inl hf0)] at hfin
            rw [hfin] at hlast
            simp at hlast
          rw [if_neg (by rintro (h | h); exact hf0 h; exact hlast h)] at hfin
          repeat' (first
    | (refine H_cons ?_; simp [hl0])
    | (refine H_nil ?_; simp [hl0])
    | (refine V_sseq ?_; simp [hl0])
    | (refine V_scond ?_; simp [hl0])
    | (refine V_sblock ?_; simp [hl0])
    | (refine V_skip ?_; simp only [RK_seq, RK_seq_ret, RK_seq_exit, RK_blk, RK_blk_ret, RK_blk_exit, RK_loop, RK_loop_ret, RK_loop_exit, RK_done])
    | (refine CallP.ret_ (hrx) (by rfl) (by first | assumption | simp) (by rfl) (by simp) ?_; rintro d o n' hn' ⟨rfl, rfl, rfl⟩; (try simp at hn'); (try simp [hl0]))
    | fail)
          refine LoopW.next ⟨(r + 1, (sweepR l g).1, (sweepR l g).2), .inl ⟨by simp only; omega, by simp only; omega, ⟨_, L', by simp only; rw [Nat.succ_mul]; omega, hSM.fin⟩, by simp only; rw [show m + 1 - (r + 1) = f by omega]; exact hfin⟩⟩ (by simp; omega) ?_
          exact (Wk.cut rfl (by simp [hn, St.lp]) (by simp [wkO, St.lp, getK_cons, getK, Ob.under, D.under, under_rowsD, under_entD, pure_intR, under_intR, pure_boolR, under_boolR]) (by simp [wkU, St.lp, keepE, getK_cons, getK, D.under, pure_intR, under_intR, pure_boolR, under_boolR]) (by simp [wkE, St.lp, keepE, getK_cons, getK, pure_intR, under_intR, pure_boolR, under_boolR] <;> (try (intros; simp_all; done)) <;> (try (intros; omega)) <;> (try grind)))
      have hlr2 : ¬ 0 ≤ last := by omega
      repeat' (first
    | (refine H_cons ?_; simp [hlr2, boolR_len, boolR_getE, bst_len, bst_getE, hAm, hka])
    | (refine H_nil ?_; simp [hlr2, boolR_len, boolR_getE, bst_len, bst_getE, hAm, hka])
    | (refine V_sseq ?_; simp [hlr2, boolR_len, boolR_getE, bst_len, bst_getE, hAm, hka])
    | (refine V_scond ?_; simp [hlr2, boolR_len, boolR_getE, bst_len, bst_getE, hAm, hka])
    | (refine V_ret ?_; simp only [RK_seq, RK_seq_ret, RK_seq_exit, RK_blk, RK_blk_ret, RK_blk_exit, RK_loop, RK_loop_ret, RK_loop_exit, RK_done])
    | (refine V_exit ?_; simp [RK_seq, RK_seq_ret, RK_seq_exit, RK_blk, RK_blk_ret, RK_blk_exit, RK_loop, RK_loop_ret, RK_loop_exit, RK_done])
    | fail)
      refine EndW.norm (EndW.here ?_)
      (refine EndOK.val (.inr rfl) ?_; simp [resD, oneOrTup, pureD, Try.results12, frz_obs, frz_env, norm_obs, norm_env, frz, frzOb, frzS, fv, fzVec, fzMap, fzBox, frzObS, frz_entD, frz_rowsD, normD, normU, norm1, normOb])
    | true =>
      obtain ⟨k, hkm, hal, hkb, hkmin⟩ := (Fix.ends e4 hy hinv hfix).2.2 A hAm hka
      refine ⟨_, _, _, most_some 0 hcond hy e4 hout hbt hka hkm hal hkb, ?_⟩
      clear hbt hout
      (refine Fun.of_bodyW Try.func12 rfl (by simp) fun Γ hn => ?_); simp only [entry, List.zipIdx_cons, List.zipIdx_nil, List.map_cons, List.map_nil, Nat.zero_add, Try.ntmps12]
      simp only [consU, ints] at h0 h1 ⊢
      have k1 := one_kn m B
      have k2 := one_pre m (bgOne B)
      have k3 := zero_val m (bgOne B)
      repeat' (first
    | (refine H_cons ?_; simp [ha0, han, hb0, hbn, intR_rep, boolR_rep, boolR_len, boolR_getE, boolR_set, hBm])
    | (refine H_nil ?_; simp [ha0, han, hb0, hbn, intR_rep, boolR_rep, boolR_len, boolR_getE, boolR_set, hBm])
    | (refine ⟨by omega, ?_⟩)
    | (refine V_sseq ?_; simp [ha0, han, hb0, hbn, intR_rep, boolR_rep, boolR_len, boolR_getE, boolR_set, hBm])
    | (refine V_scond ?_; simp [ha0, han, hb0, hbn, intR_rep, boolR_rep, boolR_len, boolR_getE, boolR_set, hBm])
    | (refine V_skip ?_; simp only [RK_seq, RK_seq_ret, RK_seq_exit, RK_blk, RK_blk_ret, RK_blk_exit, RK_loop, RK_loop_ret, RK_loop_exit, RK_done])
    | (refine ⟨?_, by omega⟩)
    | (intro hc <;> (try (exfalso; omega)))
    | (refine CallP.fun_ (h0) (by first | rfl | fail) (by first | assumption | (simp; done) | fail) (by first | (simp [ha0, han, hb0, hbn, intR_rep, boolR_rep, boolR_len, boolR_getE, boolR_set, hBm]; done) | (simp [ha0, han, hb0, hbn, intR_rep, boolR_rep, boolR_len, boolR_getE, boolR_set, hBm]; rfl) | fail) (by first | (simp; done) | fail) (fun d hd => ?_); subst hd; (try simp [ha0, han, hb0, hbn, intR_rep, boolR_rep, boolR_len, boolR_getE, boolR_set, hBm]))
    | (refine CallP.fun_ (h1) (by first | rfl | fail) (by first | assumption | (simp; done) | fail) (by first | (simp [ha0, han, hb0, hbn, intR_rep, boolR_rep, boolR_len, boolR_getE, boolR_set, hBm]; done) | (simp [ha0, han, hb0, hbn, intR_rep, boolR_rep, boolR_len, boolR_getE, boolR_set, hBm]; rfl) | fail) (by first | (simp; done) | fail) (fun d hd => ?_); subst hd; (try simp [ha0, han, hb0, hbn, intR_rep, boolR_rep, boolR_len, boolR_getE, boolR_set, hBm]))
    | fail)
      have q0 : loopR l (m + 1 - 0) (GS.zero (bgOne B)) = (gF, -1) := hF
      refine V_loopO (α := { s : Nat × GS × Int // (0 ≤ s.2.2 ∧ s.1 ≤ m ∧ (∃ t L, t ≤ s.1 * l.length ∧ SI m l (bgOne B) s.1 t s.2.1 L) ∧ loopR l (m + 1 - s.1) s.2.1 = (gF, -1)) ∨ (s.1 = m + 1 ∧ s.2.1 = gF ∧ s.2.2 < 0) }) [0, 2, 3, 14, 15, 16]
        (fun s => [(17, .u (.int .i64 s.1.2.2))])
        (fun s => [(0, .vec 3 1 (intR (lst m s.1.2.1.val))), (1, .vec 4 1 (boolR (bst m s.1.2.1.kn))), (2, .vec 3 1 (intR (lst m (preI 0 s.1.2.1))))]) 3 (fun s => m + 1 - s.1.1) ⟨(0, GS.zero (bgOne B), 0), .inl ⟨by simp, by omega, ⟨0, fun _ => 0, by simp, SI.zero _⟩, q0⟩⟩ ?_ ?_
      · exact (Wk.cut rfl (by simp [hn, St.lp]) (by simp [wkO, St.lp, getK_cons, getK, Ob.under, D.under, under_rowsD, under_entD, pure_intR, under_intR, pure_boolR, under_boolR, k1, ← k2, ← k3]) (by simp [wkU, St.lp, keepE, getK_cons, getK, D.under, pure_intR, under_intR, pure_boolR, under_boolR, k1, ← k2, ← k3]) (by simp [wkE, St.lp, keepE, getK_cons, getK, pure_intR, under_intR, pure_boolR, under_boolR, k1, ← k2, ← k3] <;> (try (intros; simp_all; done)) <;> (try (intros; omega)) <;> (try grind)))
      rintro ⟨⟨r, g, last⟩, hs⟩
      simp only at hs
      simp [St.lp, St.only, keepE, getK_cons, getK]
      rcases hs with ⟨hl0, hr1, ⟨t, L, ht, hSI⟩, hfin⟩ | ⟨rfl, rfl, hlr⟩
      · have htl : r * l.length ≤ 200 * l.length := Nat.mul_le_mul_right _ (by omega)
        have hrx := relax_ret m l g 0 e4 e3 (stR_bd e4 e3 hSI (by omega))
        simp only [consU] at hrx
        obtain ⟨f, hf⟩ : ∃ f, m + 1 - r = f + 1 := ⟨m - r, by omega⟩
        rw [hf, loopR] at hfin
        obtain ⟨L', hSM⟩ := hSI.sweep e4
        by_cases hlast : (sweepR l g).2 < 0
        · rw [if_pos (.inr hlast)] at hfin
          rw [hfin] at hrx hlast
          simp only at hrx hlast
          repeat' (first
    | (refine H_cons ?_; simp [hl0])
    | (refine H_nil ?_; simp [hl0])
    | (refine V_sseq ?_; simp [hl0])
    | (refine V_scond ?_; simp [hl0])
    | (refine V_sblock ?_; simp [hl0])
    | (refine V_skip ?_; simp only [RK_seq, RK_seq_ret, RK_seq_exit, RK_blk, RK_blk_ret, RK_blk_exit, RK_loop, RK_loop_ret, RK_loop_exit, RK_done])
    | (refine CallP.ret_ (hrx) (by rfl) (by first | assumption | simp) (by rfl) (by simp) ?_; rintro d o n' hn' ⟨rfl, rfl, rfl⟩; (try simp at hn'); (try simp [hl0]))
    | fail)
          refine LoopW.next ⟨(m + 1, gF, -1), .inr ⟨rfl, rfl, by simp⟩⟩ (by simp; omega) ?_
          exact (Wk.cut rfl (by simp [hn, St.lp]) (by simp [wkO, St.lp, getK_cons, getK, Ob.under, D.under, under_rowsD, under_entD, pure_intR, under_intR, pure_boolR, under_boolR]) (by simp [wkU, St.lp, keepE, getK_cons, getK, D.under, pure_intR, under_intR, pure_boolR, under_boolR]) (by simp [wkE, St.lp, keepE, getK_cons, getK, pure_intR, under_intR, pure_boolR, under_boolR] <;> (try (intros; simp_all; done)) <;> (try (intros; omega)) <;> (try grind)))
        · have hf0 : ¬ f = 0 := fun hf0 => by
            rw [if_pos (.inl hf0)] at hfin
            rw [hfin] at hlast
            simp at hlast
          rw [if_neg (by rintro (h | h); exact hf0 h; exact hlast h)] at hfin
          repeat' (first
    | (refine H_cons ?_; simp [hl0])
    | (refine H_nil ?_; simp [hl0])
    | (refine V_sseq ?_; simp [hl0])
    | (refine V_scond ?_; simp [hl0])
    | (refine V_sblock ?_; simp [hl0])
    | (refine V_skip ?_; simp only [RK_seq, RK_seq_ret, RK_seq_exit, RK_blk, RK_blk_ret, RK_blk_exit, RK_loop, RK_loop_ret, RK_loop_exit, RK_done])
    | (refine CallP.ret_ (hrx) (by rfl) (by first | assumption | simp) (by rfl) (by simp) ?_; rintro d o n' hn' ⟨rfl, rfl, rfl⟩; (try simp at hn'); (try simp [hl0]))
    | fail)
          refine LoopW.next ⟨(r + 1, (sweepR l g).1, (sweepR l g).2), .inl ⟨by simp only; omega, by simp only; omega, ⟨_, L', by simp only; rw [Nat.succ_mul]; omega, hSM.fin⟩, by simp only; rw [show m + 1 - (r + 1) = f by omega]; exact hfin⟩⟩ (by simp; omega) ?_
          exact (Wk.cut rfl (by simp [hn, St.lp]) (by simp [wkO, St.lp, getK_cons, getK, Ob.under, D.under, under_rowsD, under_entD, pure_intR, under_intR, pure_boolR, under_boolR]) (by simp [wkU, St.lp, keepE, getK_cons, getK, D.under, pure_intR, under_intR, pure_boolR, under_boolR]) (by simp [wkE, St.lp, keepE, getK_cons, getK, pure_intR, under_intR, pure_boolR, under_boolR] <;> (try (intros; simp_all; done)) <;> (try (intros; omega)) <;> (try grind)))
      have hlr2 : ¬ 0 ≤ last := by omega
      repeat' (first
    | (refine H_cons ?_; simp [hlr2, boolR_len, boolR_getE, bst_len, bst_getE, hAm, hka])
    | (refine H_nil ?_; simp [hlr2, boolR_len, boolR_getE, bst_len, bst_getE, hAm, hka])
    | (refine V_sseq ?_; simp [hlr2, boolR_len, boolR_getE, bst_len, bst_getE, hAm, hka])
    | (refine V_scond ?_; simp [hlr2, boolR_len, boolR_getE, bst_len, bst_getE, hAm, hka])
    | (refine V_sblock ?_; simp [hlr2, boolR_len, boolR_getE, bst_len, bst_getE, hAm, hka])
    | (refine V_skip ?_; simp only [RK_seq, RK_seq_ret, RK_seq_exit, RK_blk, RK_blk_ret, RK_blk_exit, RK_loop, RK_loop_ret, RK_loop_exit, RK_done])
    | (refine V_exit ?_; simp [RK_seq, RK_seq_ret, RK_seq_exit, RK_blk, RK_blk_ret, RK_blk_exit, RK_loop, RK_loop_ret, RK_loop_exit, RK_done])
    | fail)
      refine V_wk _ (Wk.own 18 3 1 (by decide) rfl) ?_
      simp [St.own]
      refine V_loopO (α := { q : Nat // q ≤ k }) [0, 2, 3, 14, 16] (fun q => [(18, .vec 3 q.1), (19, .u (.int .i64 (it l g q.1 A)))])
        (fun q => [(3, .vec 3 1 (intR (pl l 0 g q.1 A))), (0, .vec 3 1 (intR (lst m g.val))), (2, .vec 3 1 (intR (lst m (preI 0 g))))]) 4 (fun q => k - q.1) ⟨0, by omega⟩ ?_ ?_
      · exact (Wk.cut rfl (by simp [hn, St.lp]) (by simp [wkO, St.lp, getK_cons, getK, Ob.under, D.under, under_rowsD, under_entD, pure_intR, under_intR, pure_boolR, under_boolR, it, pl, intR]) (by simp [wkU, St.lp, keepE, getK_cons, getK, D.under, pure_intR, under_intR, pure_boolR, under_boolR, it, pl, intR]) (by simp [wkE, St.lp, keepE, getK_cons, getK, pure_intR, under_intR, pure_boolR, under_boolR, it, pl, intR] <;> (try (intros; simp_all; done)) <;> (try (intros; omega)) <;> (try grind)))
      rintro ⟨q, hq⟩
      simp [St.lp, St.only, keepE, getK_cons, getK]
      by_cases hqk : q < k
      case pos =>
        have hxi : it l g q A < m := it_lt e4 q hAm
        obtain ⟨I, c, q1, q2, q3, q4⟩ := back_at 0 e4 hinv hxi (al_at hal hqk)
        have q5 := it_succ l g q A
        rw [← q5] at q3
        have q6 := pl_snoc l 0 g q A
        rw [q1] at q6
        have q7 : intR (pl l 0 g q A) ++ [[D.u (.int .i64 (I : Int))]] = intR (pl l 0 g (q + 1) A) := by rw [q6]; simp [intR]
        have q8 := intR_lenR (pl l 0 g q A)
        have q9 := pl_len l 0 g q A
        have hne := hkmin q hqk
        have hne2 : ¬ ((it l g q A : Nat) : Int) = (B : Int) := fun e => hne (by omega)
        repeat' (first
    | (refine H_cons ?_; simp [hne, hne2, intR_len, intR_getE, lst_len, lst_getE, hxi, q1, q2, q3, q4, q7, q8, q9])
    | (refine H_nil ?_; simp [hne, hne2, intR_len, intR_getE, lst_len, lst_getE, hxi, q1, q2, q3, q4, q7, q8, q9])
    | (refine ⟨by omega, ?_⟩)
    | (refine V_sseq ?_; simp [hne, hne2, intR_len, intR_getE, lst_len, lst_getE, hxi, q1, q2, q3, q4, q7, q8, q9])
    | (refine V_scond ?_; simp [hne, hne2, intR_len, intR_getE, lst_len, lst_getE, hxi, q1, q2, q3, q4, q7, q8, q9])
    | (refine V_sregion ?_; simp [hne, hne2, intR_len, intR_getE, lst_len, lst_getE, hxi, q1, q2, q3, q4, q7, q8, q9])
    | (refine V_skip ?_; simp only [RK_seq, RK_seq_ret, RK_seq_exit, RK_blk, RK_blk_ret, RK_blk_exit, RK_loop, RK_loop_ret, RK_loop_exit, RK_done])
    | fail)
        refine LoopW.next ⟨q + 1, by omega⟩ (by simp; omega) ?_
        exact (Wk.ren1 (3) (5) rfl (by simp [hn]) (by simp [hn]) (by simp [pure_intR, under_intR]) (by simp [wkER, rho1, St.lp, keepE, getK_cons, getK, getK_del, getK_setOb, D.under, D.le, D.ren, pure_intR, under_intR] <;> (try (intros; simp_all; done)) <;> (try omega)) (by simp [wkR, wkR_tail1, endsIn_here, endsIn_cons, del_cons, del_fam, rho1, St.lp, getK_cons, getK, getK_del, getK_setOb, obR, leU, pureRow, pureRows, Ob.under, D.under, D.le, D.ren, pure_intR, under_intR] <;> (try (intros; simp_all; done)) <;> (try omega)))
      obtain rfl : q = k := by omega
      rw [hkb]
      have q9 := pl_len l 0 g q A
      refine V_wk _ (Wk.frz 3 [] (us := (pl l 0 g q A).map fun z => [U.int .i64 z]) rfl (intR_all _)) ?_
      simp [St.frz, St.frzS, frzS, fv, fzVec, frzObS, del]
      repeat' (first
    | (refine H_cons ?_; simp [q9])
    | (refine H_nil ?_; simp [q9])
    | (refine ⟨by omega, ?_⟩)
    | (refine V_sseq ?_; simp [q9])
    | (refine V_scond ?_; simp [q9])
    | (refine V_sblock ?_; simp [q9])
    | (refine V_exit ?_; simp [RK_seq, RK_seq_ret, RK_seq_exit, RK_blk, RK_blk_ret, RK_blk_exit, RK_loop, RK_loop_ret, RK_loop_exit, RK_done])
    | fail)
      refine V_wk _ (Wk.own 20 3 1 (by decide) rfl) ?_
      simp [St.own]
      have hrl : (pl l 0 g q A).reverse.length = q := by simp [q9]
      refine V_loopO (α := { w : Nat // w ≤ q }) [2, 14, 18] (fun w => [(20, .vec 4 w.1), (21, .u (.int .i64 ((q : Int) - 1 - w.1)))])
        (fun w => [(4, .vec 3 1 (intR ((pl l 0 g q A).reverse.take w.1))), (0, .vec 3 1 (intR (lst m g.val)))]) 5 (fun w => q - w.1) ⟨0, by omega⟩ ?_ ?_
      · exact (Wk.cut rfl (by simp [hn, St.lp]) (by simp [wkO, St.lp, getK_cons, getK, Ob.under, D.under, under_rowsD, under_entD, pure_intR, under_intR, intR]) (by simp [wkU, St.lp, keepE, getK_cons, getK, D.under, pure_intR, under_intR, intR]) (by simp [wkE, St.lp, keepE, getK_cons, getK, pure_intR, under_intR, intR] <;> (try (intros; simp_all; done)) <;> (try (intros; omega)) <;> (try grind)))
      rintro ⟨w, hw⟩
      simp [St.lp, St.only, keepE, getK_cons, getK]
      have hidx : w < q → (q : Int) - 1 - w = ((q - 1 - w : Nat) : Int) := fun h => by omega
      by_cases hwq : w < q
      · obtain ⟨x, hx⟩ : ∃ x, (pl l 0 g q A).reverse[w]? = some x := ⟨_, List.getElem?_eq_getElem (by omega)⟩
        have hx2 : (pl l 0 g q A)[q - 1 - w]? = some x := by rw [List.getElem?_reverse (by omega), q9] at hx; exact hx
        have q7 : intR ((pl l 0 g q A).reverse.take w) ++ [[D.u (.int .i64 x)]] = intR ((pl l 0 g q A).reverse.take (w + 1)) := by rw [take_snoc hx]; simp [intR]
        have q8 := intR_lenR ((pl l 0 g q A).reverse.take w)
        have hmw : min w q = w := by omega
        rw [hidx hwq]
        repeat' (first
    | (refine H_cons ?_; simp [hx2, intR_len, List.length_take, hrl, hmw, q7, q8])
    | (refine H_nil ?_; simp [hx2, intR_len, List.length_take, hrl, hmw, q7, q8])
    | (refine ⟨by omega, ?_⟩)
    | (refine V_sseq ?_; simp [hx2, intR_len, List.length_take, hrl, hmw, q7, q8])
    | (refine V_scond ?_; simp [hx2, intR_len, List.length_take, hrl, hmw, q7, q8])
    | (refine V_sregion ?_; simp [hx2, intR_len, List.length_take, hrl, hmw, q7, q8])
    | (refine V_skip ?_; simp only [RK_seq, RK_seq_ret, RK_seq_exit, RK_blk, RK_blk_ret, RK_blk_exit, RK_loop, RK_loop_ret, RK_loop_exit, RK_done])
    | fail)
        refine LoopW.next ⟨w + 1, by omega⟩ (by simp; omega) ?_
        exact (Wk.ren1 (4) (6) rfl (by simp [hn]) (by simp [hn]) (by simp [pure_intR, under_intR]) (by simp [wkER, rho1, St.lp, keepE, getK_cons, getK, getK_del, getK_setOb, D.under, D.le, D.ren, pure_intR, under_intR] <;> (try (intros; simp_all; done)) <;> (try omega)) (by simp [wkR, wkR_tail1, endsIn_here, endsIn_cons, del_cons, del_fam, rho1, St.lp, getK_cons, getK, getK_del, getK_setOb, obR, leU, pureRow, pureRows, Ob.under, D.under, D.le, D.ren, pure_intR, under_intR] <;> (try (intros; simp_all; done)) <;> (try omega)))
      · obtain rfl : w = q := by omega
        rw [List.take_of_length_le (by omega)]
        repeat' (first
    | (refine H_cons ?_; simp [intR_len, intR_getE, lst_len, lst_getE, hAm])
    | (refine H_nil ?_; simp [intR_len, intR_getE, lst_len, lst_getE, hAm])
    | (refine ⟨by omega, ?_⟩)
    | (refine V_sseq ?_; simp [intR_len, intR_getE, lst_len, lst_getE, hAm])
    | (refine V_scond ?_; simp [intR_len, intR_getE, lst_len, lst_getE, hAm])
    | (refine V_ret ?_; simp only [RK_seq, RK_seq_ret, RK_seq_exit, RK_blk, RK_blk_ret, RK_blk_exit, RK_loop, RK_loop_ret, RK_loop_exit, RK_done])
    | (refine V_exit ?_; simp [RK_seq, RK_seq_ret, RK_seq_exit, RK_blk, RK_blk_ret, RK_blk_exit, RK_loop, RK_loop_ret, RK_loop_exit, RK_done])
    | (intro hc <;> (try (exfalso; omega)))
    | fail)
        refine EndW.wk _ (Wk.frz 4 [] (us := (pl l 0 g w A).reverse.map fun z => [U.int .i64 z]) rfl (intR_all _)) ?_
        simp [St.frz, St.frzS, frzS, fv, fzVec, frzObS, del, q9]
        refine EndW.norm (EndW.here ?_)
        (refine EndOK.val (.inr rfl) ?_; simp [resD, oneOrTup, pureD, Try.results12, frz_obs, frz_env, norm_obs, norm_env, frz, frzOb, frzS, fv, fzVec, fzMap, fzBox, frzObS, frz_entD, frz_rowsD, normD, normU, norm1, normOb, q9])
  · refine ⟨_, _, _, most_bad hcond hun, ?_⟩
    (refine Fun.of_bodyW Try.func12 rfl (by simp) fun Γ hn => ?_); simp only [entry, List.zipIdx_cons, List.zipIdx_nil, List.map_cons, List.map_nil, Nat.zero_add, Try.ntmps12]
    simp only [consU, ints] at h0 h1 ⊢
    repeat' (first
    | (refine H_cons ?_; simp [ha0, han, hb0, hbn])
    | (refine H_nil ?_; simp [ha0, han, hb0, hbn])
    | (refine ⟨by omega, ?_⟩)
    | (refine V_sseq ?_; simp [ha0, han, hb0, hbn])
    | (refine V_scond ?_; simp [ha0, han, hb0, hbn])
    | (refine V_ret ?_; simp only [RK_seq, RK_seq_ret, RK_seq_exit, RK_blk, RK_blk_ret, RK_blk_exit, RK_loop, RK_loop_ret, RK_loop_exit, RK_done])
    | (refine V_skip ?_; simp only [RK_seq, RK_seq_ret, RK_seq_exit, RK_blk, RK_blk_ret, RK_blk_exit, RK_loop, RK_loop_ret, RK_loop_exit, RK_done])
    | (refine ⟨?_, by omega⟩)
    | (intro hc <;> (try (exfalso; omega)))
    | (refine CallP.fun_ (h0) (by first | rfl | fail) (by first | assumption | (simp; done) | fail) (by first | (simp [ha0, han, hb0, hbn]; done) | (simp [ha0, han, hb0, hbn]; rfl) | fail) (by first | (simp; done) | fail) (fun d hd => ?_); subst hd; (try simp [ha0, han, hb0, hbn]))
    | (refine CallP.fun_ (h1) (by first | rfl | fail) (by first | assumption | (simp; done) | fail) (by first | (simp [ha0, han, hb0, hbn]; done) | (simp [ha0, han, hb0, hbn]; rfl) | fail) (by first | (simp; done) | fail) (fun d hd => ?_); subst hd; (try simp [ha0, han, hb0, hbn]))
    | fail)
    refine EndW.norm (EndW.here ?_)
    (refine EndOK.val (.inr rfl) ?_; simp [resD, oneOrTup, pureD, Try.results12, frz_obs, frz_env, norm_obs, norm_env, frz, frzOb, frzS, fv, fzVec, fzMap, fzBox, frzObS, frz_entD, frz_rowsD, normD, normU, norm1, normOb])
end Go.Proofs.Ytdkadmchdocjbaa
