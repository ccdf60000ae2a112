/- Layer 26: moving debts: the walk. -/
import Derived.Test.YtjmddlekokodfaaBe
import Derived.Test.YtjmddlekokodfaaBb
import Derived.Test.YtjmddlekokodfaaVLV
set_option linter.all false
set_option maxRecDepth 100000
set_option maxHeartbeats 8000000
set_option linter.all false
namespace Go.Proofs.Ytjmddlekokodfaa
open Go Go.VL
def Dof (l : List Int) (i : Nat) : Int := l.getD i 0
theorem lst_of {l : List Int} {n : Nat} (h : l.length = n) : lst n (Dof l) = l := by subst h; exact lst_self l
def matL (n : Nat) (P : Nat → Nat → Int) : List (List Int) := (List.range n).map fun i => lst n (P i)
def moveP (debts : List Int) (B : List (List Int)) (means : List Int) : List (List Int) := matL debts.length (paidAt debts.length B (Dof debts) (Dof means))
def moveL (debts : List Int) (B : List (List Int)) (means : List Int) : List Int := lst debts.length (leftAt debts.length B (Dof debts) (Dof means))
def moveD (debts : List Int) (B : List (List Int)) (means : List Int) : D := if rightB debts B means = true then .tup [.u (lists (moveP debts B means)), .u (ints (moveL debts B means)), .u (.int .i64 0)] else .tup [.u (.sl []), .u (.sl []), .u (.int .i64 1)]
theorem right_out {debts : List Int} {B : List (List Int)} {means : List Int} (h : rightB debts B means = true) :
    debts.length ≤ 60 ∧ means.length = debts.length ∧ OkB debts.length B ∧ OkM debts.length (Dof means) ∧ ∀ d, d < debts.length → 0 ≤ Dof debts d ∧ Dof debts d ≤ maxC := by
  simp only [rightB, Bool.and_eq_true, decide_eq_true_eq] at h
  obtain ⟨⟨⟨h1, h2⟩, h3⟩, h4⟩ := h
  have key : ∀ i, i < debts.length → guB debts.length i (B.getD i []) = true ∧ (0 ≤ Dof debts i ∧ Dof debts i ≤ maxC) ∧ (0 ≤ Dof means i ∧ Dof means i ≤ maxC) := fun i hi => by
    have := h4 i hi
    simp only [memB, Bool.and_eq_true, amB_iff] at this
    exact ⟨this.1.1, this.1.2, this.2⟩
  refine ⟨h1, h3, ⟨h2, fun l hl => ?_⟩, ⟨fun i hi => (key i hi).2.2.1, fun i hi => (key i hi).2.2.2⟩, fun d hd => (key d hd).2.1⟩
  obtain ⟨i, hi, e⟩ := List.mem_iff_getElem.1 hl
  have hg := (key i (by omega)).1
  rw [show B.getD i [] = l by simp [List.getD_eq_getElem?_getD, hi, e]] at hg
  refine ⟨guB_len hg, fun g hgm => ?_⟩
  simp only [guB, Bool.and_eq_true, decide_eq_true_eq] at hg
  exact ⟨(hg.1 g hgm).1, (hg.1 g hgm).2.1⟩
-- without an amount nothing is paid
theorem payQ_zero {n : Nat} {M : Nat → Int} (h : OkM n M) {level : List Nat} (hl : ∀ i ∈ level, i < n) (hd : level.Nodup) {i : Nat} (hi : i < n) : payQ level M 0 i = 0 := by
  have h1 := payQ_range h hl hd (Int.le_refl 0) hi
  by_cases hm : i ∈ level
  · have hIs := hgt_ok (vs_ok h hl) (Int.le_refl 0)
    have h0 := h.lo i hi
    have hb : ∀ (l : List Int) (v h : Int), v ∈ l → (∀ x ∈ l, 0 ≤ x) → 0 ≤ h → min v h ≤ below l h := fun l => by
      induction l with
      | nil => intro v h hv; simp at hv
      | cons x l ih =>
        intro v h hv hx hh
        rw [below_cons]
        have hxx := hx x (by simp)
        have hbn := below_nonneg (vs := l) (h := h) (fun y hy => hx y (by simp [hy])) hh
        rcases List.mem_cons.1 hv with rfl | hv
        · omega
        · have := ih v h hv (fun y hy => hx y (by simp [hy])) hh
          omega
    have h2 := hb (vsOf level M) (M i) (hgt (vsOf level M) 0) (List.mem_map.2 ⟨i, hm, rfl⟩) (fun x hx => (vs_ok h hl x hx).1) hIs.1
    rcases payQ_get h hl hd (Int.le_refl 0) hm with h3 | ⟨h3, h4⟩
    · have := hIs.2.2.1; omega
    · -- one coin more, out of none
      have hsum := payL_sum h hl (Int.le_refl 0)
      have hle : ∀ (lv : List Nat) (ps : List Int) (i : Nat), (∀ p ∈ ps, 0 ≤ p) → pf lv ps i ≤ ps.sum := fun lv => by
        induction lv with
        | nil => intro ps i hp; rw [pf_nil]; exact sum_nonneg hp
        | cons j lv ih =>
          intro ps i hp
          cases ps with
          | nil => simp [pf]
          | cons p ps =>
            have h5 := ih ps i fun q hq => hp q (by simp [hq])
            have h6 := hp p (by simp)
            simp only [pf, List.sum_cons]
            split <;> omega
      have h7 := hle level (payL level M 0) i (fun p hp => by
        obtain ⟨k, hk, e⟩ := List.mem_iff_getElem.1 hp
        have hkl : k < (vsOf level M).length := by
          have : (payL level M 0).length = (vsOf level M).length := paysL_len _ _ _
          omega
        obtain ⟨q, hq1, hq2⟩ := paysL_get (h := hgt (vsOf level M) 0) (m := 0 - below (vsOf level M) (hgt (vsOf level M) 0)) (by have := hIs.2.2.1; omega) (List.getElem?_eq_getElem hkl)
        have : p = q := by
          have h8 : (payL level M 0)[k]? = some p := by rw [List.getElem?_eq_getElem hk, e]
          have h9 : (payL level M 0)[k]? = some q := hq1
          rw [h8] at h9
          exact Option.some.inj h9
        subst this
        have hv0 := (vs_ok h hl _ (List.getElem_mem hkl)).1
        have := hIs.1
        rcases hq2 with h8 | ⟨h8, _⟩ <;> omega)
      have h8 : payQ level M 0 i = pf level (payL level M 0) i := rfl
      omega
  · exact payQ_out hm
theorem payLeft_zero {n : Nat} {M : Nat → Int} (h : OkM n M) {level : List Nat} (hl : ∀ i ∈ level, i < n) : payLeft level M 0 = 0 := by
  have := payLeft_range h hl (Int.le_refl 0)
  omega
theorem goL_congr {n : Nat} : ∀ {ls : List (List Nat)} {M M' : Nat → Int} {a : Int}, OkL n ls → (∀ i, i < n → M i = M' i) → (∀ i, (goL ls M a).1 i = (goL ls M' a).1 i) ∧ (goL ls M a).2 = (goL ls M' a).2
  | [], M, M', a, _, _ => by simp [goL]
  | l :: ls, M, M', a, hL, h => by
    have hv : vsOf l M = vsOf l M' := List.map_congr_left fun i hi => h i (hL.lt l (by simp) i hi)
    have hp : payL l M a = payL l M' a := by unfold payL; rw [hv]
    have hq : ∀ i, payQ l M a i = payQ l M' a i := fun i => by unfold payQ; rw [hp]
    have hl : payLeft l M a = payLeft l M' a := by unfold payLeft; rw [hp]
    obtain ⟨r1, r2⟩ := goL_congr (M := fun j => M j - payQ l M a j) (M' := fun j => M' j - payQ l M' a j) (a := payLeft l M a) hL.tail (fun i hi => by rw [h i hi, hq])
    simp only [goL]
    rw [← hl]
    exact ⟨fun i => by rw [r1 i, hq i], r2⟩
theorem goL_zero {n : Nat} : ∀ {ls : List (List Nat)} {M : Nat → Int}, OkL n ls → OkM n M → (∀ i, i < n → (goL ls M 0).1 i = 0) ∧ (goL ls M 0).2 = 0
  | [], M, _, _ => by simp [goL]
  | l :: ls, M, hL, hM => by
    have h1 := hL.lt l (by simp)
    have h2 := hL.nd l (by simp)
    have h3 := fun i hi => payQ_zero hM h1 h2 (i := i) hi
    have h4 := payLeft_zero hM h1
    obtain ⟨r1, r2⟩ := goL_zero (M := fun j => M j - payQ l M 0 j) hL.tail (payM_ok hM h1 h2 (Int.le_refl 0))
    simp only [goL]
    rw [h4]
    exact ⟨fun i hi => by rw [h3 i hi, r1 i hi]; rfl, r2⟩
theorem get_snoc (t n P k o) : getK (fam 16 (rowsOb t n P k) ++ [(k + 16, o)]) (k + 16) = some o := by
  rw [getK_append, getK_fam_add, List.getElem?_eq_none (by rw [rowsOb_len]; exact Nat.le_refl _)]
  simp [getK]
theorem V_front {P : Program} {Γ : Ctx} {c : Code} {n : Nat} {env : List (Nat × D)} {next : Nat} {Q : Exit → St → Prop} (A T : List (Nat × Ob)) (x : Nat × Ob) (hx : ∀ q ∈ A ++ T, q.1 ≠ x.1) (h : V P Γ c { n := n, env := env, obs := x :: (A ++ T), next := next } Q) : V P Γ c { n := n, env := env, obs := A ++ (T ++ [x]), next := next } Q := by
  refine V_wk { n := n, env := env, obs := x :: (A ++ T), next := next } (Wk.eqo ⟨rfl, fun j => ?_, rfl, fun _ => rfl⟩) h
  show getK (A ++ (T ++ [x])) j = getK (x :: (A ++ T)) j
  rw [← List.append_assoc, getK_append, getK_cons]
  by_cases hj : j = x.1
  · rw [if_pos hj, hj, getK_none (fun q hq => hx q hq)]
    simp [getK]
  · rw [if_neg hj]
    simp only [getK, if_neg hj]
    cases getK (A ++ T) j <;> rfl
/-- The levels that are still to come. -/
def restL (n : Nat) (B : List (List Int)) (f : Nat) (seen nxt : List Nat) : List (List Nat) := if nxt = [] then [] else nxt :: lvls n B f seen nxt
structure InvM (p : Nat) (B : List (List Int)) (M : Nat → Int) (D : Int) (ls : List (List Nat)) (seen nxt : List Nat) (f : Nat) (q : Nat → Int) (a : Int) : Prop where
  i1 : seen.Nodup
  i2 : ∀ i ∈ seen, i < p
  i3 : nxt.Nodup
  i4 : ∀ i ∈ nxt, i < p
  i5 : nxt ≠ [] → p + 1 ≤ seen.length + f
  i6 : ∀ i, i < p → 0 ≤ q i ∧ q i ≤ M i
  i7 : 0 ≤ a
  i8 : a ≤ maxC
  i9 : OkL p (restL p B f seen nxt)
  i10 : ∀ i, (goL ls M D).1 i = q i + (goL (restL p B f seen nxt) (fun j => M j - q j) a).1 i
  i11 : (goL ls M D).2 = (goL (restL p B f seen nxt) (fun j => M j - q j) a).2
attribute [local simp] hcons hstep evPure opd uOf putOK St.put St.at getK binD binI binS binB nilD aggD eqUs cmpK lookD lookR rangeD nextD entryD keyD valU keyU lookK mkV entD_nil lookK_entD updK_entD1 updK_entD2 updK_entD3 allUE allUE_entD makeMapD mapUpdD mapEff updK valM Key.kk shiftI arith unD convD pickD loadD cellsAt fieldAddrD fieldD indexAddrD indexD sliceD cutD lenD minmaxD nilCheckD buildD fillD cellsD isOne ones setAll mkAgg allU allocD boxD storeD St.add buildSliceD appendD rowsOf makeD setOb getK_setOb getK_del getK_cons stripL strip guardTmp entry chunks zcells valD argsV argsW argW argU1 argU0 argsU0 argsU1 calleeOf scalarD scalarU delAll effD St.effS RK_seq RK_seq_ret RK_seq_exit RK_blk RK_blk_ret RK_blk_exit RK_loop RK_loop_ret RK_loop_exit RK_done vs_seq vs_block vs_skip vs_label vs_exit vs_ret vs_cond vs_region vs_loop vs_draw vs_range vs_scope applyW mkD rdIds lentIds callOf calleeOf freeOp D.ids Op.operands Call.operands isEffOp IntKind.bits allU2 allU2_append List.take_of_length_le List.range_succ
attribute [local irreducible] V G H HD HD2 RunK Eff CallP CallV EndOK Fun Ret FinOK LoopI LoopW EndW
theorem move_fun (debts : List Int) (B : List (List Int)) (means : List Int) (h1 : debts.length ≤ 60) (h2 : B.length ≤ 1000) (h3 : means.length ≤ 1000) (h4 : ∀ r ∈ B, r.length ≤ 1000) :
    Fun Try.prog 10 [.u (ints debts), .u (lists B), .u (ints means)] (· = moveD debts B means) := by
  have hrf := right_fun debts B means (by omega) (by omega) (by omega) (fun r hr => by have := h4 r hr; omega)
  unfold moveD
  by_cases hr : rightB debts B means = true
  case neg =>
    rw [if_neg hr]
    rw [show rightB debts B means = false by simpa using hr] at hrf
    (refine Fun.of_bodyW Try.func10 rfl (by simp) fun Γ hn => ?_); simp only [entry, List.zipIdx_cons, List.zipIdx_nil, List.map_cons, List.map_nil, Nat.zero_add, Try.ntmps10]
    repeat' (first
    | (refine H_cons ?_; simp)
    | (refine H_nil ?_; simp)
    | (refine V_sseq ?_; simp)
    | (refine V_scond ?_; simp)
    | (refine V_ret ?_; simp only [RK_seq, RK_seq_ret, RK_seq_exit, RK_blk, RK_blk_ret, RK_blk_exit, RK_loop, RK_loop_ret, RK_loop_exit, RK_done])
    | (refine CallP.fun_ (hrf) (by first | rfl | fail) (by first | assumption | (simp; done) | fail) (by first | (simp; done) | (simp; rfl) | fail) (by first | (simp; done) | fail) (fun d hd => ?_); subst hd; (try simp))
    | fail)
    all_goals
      refine EndW.norm (EndW.here ?_)
      (refine EndOK.val (.inr rfl) ?_; simp [resD, oneOrTup, pureD, Try.results10, frz_obs, frz_env, norm_obs, norm_env, frz, frzOb, frzS, fv, fzVec, fzMap, fzBox, frzObS, frz_entD, frz_rowsD, normD, normU, norm1, normOb])
  rw [if_pos hr]
  rw [hr] at hrf
  obtain ⟨hn60, hml, hB, hM, hD⟩ := right_out hr
  unfold moveP moveL
  have hcm : Ret Try.prog 20 [.u (ints means)] [] 0 (fun d o n' => d = .vec 0 debts.length ∧ o = [(0, .vec 3 1 (intR (lst debts.length (Dof means))))] ∧ n' = 0 + 1) :=
    (clone_ret means 0 (by omega)).mono fun d o n' ⟨a1, a2, a3⟩ => ⟨by rw [a1, hml], by rw [a2, lst_of hml], a3⟩
  have hcd : Ret Try.prog 20 [.u (ints debts)] [] (debts.length + 16) (fun d o n' => d = .vec (debts.length + 16) debts.length ∧ o = [(debts.length + 16, .vec 3 1 (intR (lst debts.length (Dof debts))))] ∧ n' = debts.length + 16 + 1) :=
    (clone_ret debts (debts.length + 16) (by omega)).mono fun d o n' ⟨a1, a2, a3⟩ => ⟨a1, by rw [a2, lst_of rfl], a3⟩
  generalize hDe : Dof debts = De at hD hcd
  generalize hMe : Dof means = Me at hM hcm
  generalize hne : debts.length = n at *
  (refine Fun.of_bodyW Try.func10 rfl (by simp) fun Γ hn => ?_); simp only [entry, List.zipIdx_cons, List.zipIdx_nil, List.map_cons, List.map_nil, Nat.zero_add, Try.ntmps10]
  repeat' (first
    | (refine H_cons ?_; simp [hne])
    | (refine H_nil ?_; simp [hne])
    | (refine V_sseq ?_; simp [hne])
    | (refine V_scond ?_; simp [hne])
    | (refine V_sblock ?_; simp [hne])
    | (refine V_skip ?_; simp only [RK_seq, RK_seq_ret, RK_seq_exit, RK_blk, RK_blk_ret, RK_blk_exit, RK_loop, RK_loop_ret, RK_loop_exit, RK_done])
    | (refine CallP.fun_ (hrf) (by first | rfl | fail) (by first | assumption | (simp; done) | fail) (by first | (simp [hne]; done) | (simp [hne]; rfl) | fail) (by first | (simp; done) | fail) (fun d hd => ?_); subst hd; (try simp [hne]))
    | (refine CallP.ret0 (hcm) (by rfl) (by first | assumption | simp) (by rfl) (by simp) ?_; rintro d o n' hn' ⟨rfl, rfl, rfl⟩; (try simp at hn'); (try simp [hne]))
    | fail)
  refine V_wk _ (Wk.ownC 1 _ 2 22 1 (by decide) rfl rfl) ?_
  simp [St.ownC]
  refine V_loopN (α := { p : Nat // p ≤ n }) [0, 1, 2, 25] (fun p => [(9, .ptr 0 0), (26, .u (.int .i64 p.1))])
    (fun p => (0, .box [.u (lists B), .vec 1 n, .vec 2 p.1]) :: (1, .vec 3 1 (intR (lst n Me))) :: (2, .vec 22 1 (idR 16 n p.1)) :: fam 16 (rowsOb 3 n (fun _ _ => 0) p.1)) (fun p => p.1 + 16) (fun p => n - p.1) ⟨0, by omega⟩ ?_ ?_
  · exact (Wk.ren ((fun i => if i = 0 then 1 else if i = 1 then 0 else i)) rfl (by first | (simp [hn]; done) | (intro i hi; rw [hn] at hi; constructor <;> (try simp) <;> (try (intro _)) <;> omega)) (by simp [wkER, St.lp, keepE, getK_cons, getK, getK_del, getK_setOb, D.under, D.le, D.ren, rowsOb, fam, idR_zero, pure_intR, under_intR] <;> (try (intros; simp_all; done)) <;> (try omega)) (by simp [wkR, St.lp, getK_cons, getK, getK_del, getK_setOb, obR, leU, pureRow, pureRows, Ob.under, D.under, D.le, D.ren, rowsOb, fam, idR_zero, pure_intR, under_intR] <;> (try (intros; simp_all; done)) <;> (try omega)) (by simp [rowsOb, fam, idR_zero, pure_intR, under_intR]))
  rintro ⟨p, hp⟩
  simp [St.lp, St.only, keepE, getK_cons, getK]
  by_cases hlt : p < n
  · have hrep : List.replicate n [D.u (.int .i64 0)] = intR (lst n fun _ => 0) := by rw [intR_rep, lst_rep]
    have hsn := idR_snoc 16 n p
    have hlr := idR_lenR 16 n p
    repeat' (first
    | (refine H_cons ?_; simp [hlt, hne, hrep, hsn, hlr, idR_len, intR_len, lst_len, Nat.add_assoc])
    | (refine HD2_val rfl ?_; simp [hlt, hne, hrep, hsn, hlr, idR_len, intR_len, lst_len, Nat.add_assoc])
    | (refine HD2_chg rfl ?_; simp [hlt, hne, hrep, hsn, hlr, idR_len, intR_len, lst_len, Nat.add_assoc])
    | (refine H_nil ?_; simp [hlt, hne, hrep, hsn, hlr, idR_len, intR_len, lst_len, Nat.add_assoc])
    | (refine ⟨by omega, ?_⟩)
    | (refine V_sseq ?_; simp [hlt, hne, hrep, hsn, hlr, idR_len, intR_len, lst_len, Nat.add_assoc])
    | (refine HD2_nil (hC _ (by kernel_rfl)) (hk _ ?_); clear hC hk C k; simp only [RK_seq, RK_seq_ret, RK_seq_exit, RK_blk, RK_blk_ret, RK_blk_exit, RK_loop, RK_loop_ret, RK_loop_exit, RK_done])
    | (refine V_drawE rfl (by kernel_rfl) (by kernel_rfl) (by simp [hn]) fun C k hC hk => ?_; simp [hlt, hne, hrep, hsn, hlr, idR_len, intR_len, lst_len, Nat.add_assoc])
    | (refine V_sregion ?_; simp [hlt, hne, hrep, hsn, hlr, idR_len, intR_len, lst_len, Nat.add_assoc])
    | (refine V_skip ?_; simp only [RK_seq, RK_seq_ret, RK_seq_exit, RK_blk, RK_blk_ret, RK_blk_exit, RK_loop, RK_loop_ret, RK_loop_exit, RK_done])
    | fail)
    refine LoopW.next ⟨p + 1, by omega⟩ (by simp; omega) ?_
    exact (Wk.ren1 (2) (p + 18) rfl (by simp [hn]) (by simp [hn]) (by simp [pure_intR, under_intR, rowsOb_snoc, fam_snoc, wkR_append, rowsOb_len, rowsOb_pure, idR_fix1, Nat.add_assoc, Nat.add_comm 1]) (by simp [wkER, rho1, St.lp, keepE, getK_cons, getK, getK_del, getK_setOb, D.under, D.le, D.ren, pure_intR, under_intR, rowsOb_snoc, fam_snoc, wkR_append, rowsOb_len, rowsOb_pure, idR_fix1, Nat.add_assoc, Nat.add_comm 1] <;> (try (intros; simp_all; done)) <;> (try omega)) (by simp [wkR, wkR_tail1, endsIn_here, endsIn_cons, del_cons, del_fam, rho1, St.lp, getK_cons, getK, getK_del, getK_setOb, obR, leU, pureRow, pureRows, Ob.under, D.under, D.le, D.ren, pure_intR, under_intR, rowsOb_snoc, fam_snoc, wkR_append, rowsOb_len, rowsOb_pure, idR_fix1, Nat.add_assoc, Nat.add_comm 1] <;> (try (intros; simp_all; done)) <;> (try omega)))
  obtain rfl : p = n := by omega
  repeat' (first
    | (refine H_cons ?_; simp [idR_len, get_snoc, intR_len, lst_len])
    | (refine H_nil ?_; simp [idR_len, get_snoc, intR_len, lst_len])
    | (refine V_sseq ?_; simp [idR_len, get_snoc, intR_len, lst_len])
    | (refine V_sblock ?_; simp [idR_len, get_snoc, intR_len, lst_len])
    | (refine V_exit ?_; simp [RK_seq, RK_seq_ret, RK_seq_exit, RK_blk, RK_blk_ret, RK_blk_exit, RK_loop, RK_loop_ret, RK_loop_exit, RK_done])
    | (refine CallP.ret0 (hcd) (by rfl) (by first | assumption | simp) (by rfl) (by simp) ?_; rintro d o n' hn' ⟨rfl, rfl, rfl⟩; (try simp at hn'); (try simp [idR_len, get_snoc, intR_len, lst_len]))
    | fail)
  refine V_front [_, _, _] _ _ (fun q hq => ?_) ?_
  · rcases List.mem_append.1 hq with h | h
    · simp at h
      rcases h with rfl | rfl | rfl <;> simp
    · have := fam_keys _ _ _ h
      rw [rowsOb_len] at this
      show q.1 ≠ p + 16
      omega
  simp only [List.cons_append, List.nil_append]
  have hOk := fun d => meansAt_ok (B := B) hM (fun d hd => (hD d hd).1) d
  refine V_loopO (α := { d : Nat // d ≤ p }) [0, 9, 44] (fun d => [(10, .vec 3 p), (45, .u (.int .i64 d.1))])
    (fun d => (0, .box [.u (lists B), .vec 1 p, .vec 2 p]) :: (1, .vec 3 1 (intR (lst p (meansAt p B De Me d.1)))) :: (2, .vec 22 1 (idR 16 p p)) :: (3, .vec 3 1 (intR (lst p (leftTo p B De Me d.1)))) :: fam 16 (rowsOb 3 p (paidTo p B De Me d.1) p)) (p + 16) (fun d => p - d.1) ⟨0, by omega⟩ ?_ ?_
  · have e1 : lst p (leftTo p B De Me 0) = lst p De := lst_ext fun i _ => by simp [leftTo]
    have e2 : rowsOb 3 p (paidTo p B De Me 0) p = rowsOb 3 p (fun _ _ => 0) p := rowsOb_ext fun i _ j _ => by simp [paidTo]
    exact (Wk.ren1 (3) (p + 16) rfl (by simp [hn]) (by simp [hn]) (by simp [pure_intR, under_intR, rowsOb_len, rowsOb_pure, idR_fix1, Nat.add_assoc, e1, e2, meansAt]) (by simp [wkER, rho1, St.lp, keepE, getK_cons, getK, getK_del, getK_setOb, D.under, D.le, D.ren, pure_intR, under_intR, rowsOb_len, rowsOb_pure, idR_fix1, Nat.add_assoc, e1, e2, meansAt] <;> (try (intros; simp_all; done)) <;> (try omega)) (by simp [wkR, wkR_tail1, endsIn_here, endsIn_cons, del_cons, del_fam, rho1, St.lp, getK_cons, getK, getK_del, getK_setOb, obR, leU, pureRow, pureRows, Ob.under, D.under, D.le, D.ren, pure_intR, under_intR, rowsOb_len, rowsOb_pure, idR_fix1, Nat.add_assoc, e1, e2, meansAt] <;> (try (intros; simp_all; done)) <;> (try omega)))
  rintro ⟨d, hd⟩
  simp [St.lp, St.only, keepE, getK_cons, getK]
  by_cases hlt : d < p
  case neg =>
    obtain rfl : d = p := by omega
    repeat' (first
    | (refine H_cons ?_; simp [intR_len, lst_len])
    | (refine H_nil ?_; simp [intR_len, lst_len])
    | (refine V_sseq ?_; simp [intR_len, lst_len])
    | (refine V_ret ?_; simp only [RK_seq, RK_seq_ret, RK_seq_exit, RK_blk, RK_blk_ret, RK_blk_exit, RK_loop, RK_loop_ret, RK_loop_exit, RK_done])
    | (refine V_exit ?_; simp [RK_seq, RK_seq_ret, RK_seq_exit, RK_blk, RK_blk_ret, RK_blk_exit, RK_loop, RK_loop_ret, RK_loop_exit, RK_done])
    | fail)
    have e1 : lst d (leftTo d B De Me d) = lst d (leftAt d B De Me) := lst_ext fun i hi => by simp [leftTo, hi]
    have e2 : rowsOb 3 d (paidTo d B De Me d) d = rowsOb 3 d (paidAt d B De Me) d := rowsOb_ext fun i _ j hj => by simp [paidTo, hj]
    rw [e1, e2]
    have hro : rowsOb 3 d (paidAt d B De Me) d = ((matL d (paidAt d B De Me)).map fun l => l.map fun z => [U.int .i64 z]).map fun r => Ob.vec 3 1 (rowsD r) := by simp [rowsOb, matL, intR_rows]
    have hml2 : ((matL d (paidAt d B De Me)).map fun l => l.map fun z => [U.int .i64 z]).length = d := by simp [matL]
    refine EndW.wk { n := Try.f10.ntmps, env := [(6, .vec 2 d), (7, .vec 3 d), (8, .u (.int .i64 0))], obs := (2, .vec 22 1 (idR 16 d d)) :: (fam 16 (rowsOb 3 d (paidAt d B De Me) d) ++ [(3, .vec 3 1 (intR (lst d (leftAt d B De Me))))]), next := d + 16 }
      (Wk.cut rfl (by simp [hn, St.lp]) (by simp [wkO, wkO_tail, endsIn_here, endsIn_cons, del_cons, del_fam, St.lp, getK_cons, getK, Ob.under, D.under, under_rowsD, under_entD, wkO_append, pure_intR, under_intR, rowsOb_len, rowsOb_pure, idR_under2, Nat.add_assoc]) (by simp [wkU, St.lp, keepE, getK_cons, getK, D.under, wkO_append, pure_intR, under_intR, rowsOb_len, rowsOb_pure, idR_under2, Nat.add_assoc]) (by simp [wkE, St.lp, keepE, getK_cons, getK, wkO_append, pure_intR, under_intR, rowsOb_len, rowsOb_pure, idR_under2, Nat.add_assoc] <;> (try (intros; simp_all; done)) <;> (try (intros; omega)) <;> (try grind))) ?_
    refine EndW.wk _ (Wk.frzFam (j := 2) (e2 := 22) (e := 3) (sz := 1) (m := d) [(3, .vec 3 1 (intR (lst d (leftAt d B De Me))))] ((matL d (paidAt d B De Me)).map fun l => l.map fun z => [U.int .i64 z]) 16 [] _ (by omega) (fun r hr => ?_) (by simp [outD]) (fun i ob hi => ?_) (by rw [hml2, hro]; rfl)) ?_
    · obtain ⟨l, hl, rfl⟩ := List.mem_map.1 hr
      obtain ⟨i, _, rfl⟩ := List.mem_map.1 hl
      simp [lst]
    · simp [getK_cons, getK] at hi
      omega
    simp only [List.nil_append]
    have hml3 : (matL d (paidAt d B De Me)).length = d := by simp [matL]
    have hfz : ∀ σ, (intR (lst d (leftAt d B De Me))).map (fun r => r.map (frzS σ)) = intR (lst d (leftAt d B De Me)) := fun σ => by rw [← intR_rows]; exact frz_rowsD σ _
    (refine EndW.frzN 2 ?_; simp [frzN, frz1, frz_env, frz_obs, St.frz, St.frzS, frzS, fv, fzVec, fzMap, fzBox, frzObS, frz_entD, frz_rowsD, del, frz, frzOb, intR_all, hml3, hfz, lst_len])
    refine EndW.norm (EndW.here ?_)
    (refine EndOK.val (.inr rfl) ?_; simp [resD, oneOrTup, pureD, Try.results10, frz_obs, frz_env, norm_obs, norm_env, frz, frzOb, frzS, fv, fzVec, fzMap, fzBox, frzObS, frz_entD, frz_rowsD, normD, normU, norm1, normOb, intR_all, hml3, hfz, lst_len])
    try (simp [Function.comp_def])
  have hs0 : boolR ((List.replicate p false).set d true) = boolR (seenF p [d]) := by
    have : List.replicate p false = seenF p [] := by
      apply List.ext_getElem?
      intro j
      by_cases hj : j < p <;> simp [seenF, hj]
    rw [this, seenF_set]; rfl
  have hnx := next_ret p (p + 2) (p + 17) (p + 16) (by omega) (by omega) (by omega) (by omega) (by omega) B [d] [d] hn60 hB (by simp; omega) (by simp)
  have hcp : List.replicate 1 0 = [0] := rfl
  simp only [Nat.add_assoc, Nat.reduceAdd, List.length_cons, List.length_nil] at hnx
  obtain ⟨N0, hN0⟩ : ∃ N0, N0 = nextR p B [d] [d] := ⟨_, rfl⟩
  rw [← hN0] at hnx
  repeat' (first
    | (refine H_cons ?_; simp [intR_len, lst_len, hne, hlt, boolR_rep, boolR_len, boolR_getE, boolR_set, Nat.add_assoc])
    | (refine H_nil ?_; simp [intR_len, lst_len, hne, hlt, boolR_rep, boolR_len, boolR_getE, boolR_set, Nat.add_assoc])
    | (refine ⟨by omega, ?_⟩)
    | (refine V_sseq ?_; simp [intR_len, lst_len, hne, hlt, boolR_rep, boolR_len, boolR_getE, boolR_set, Nat.add_assoc])
    | (refine V_skip ?_; simp only [RK_seq, RK_seq_ret, RK_seq_exit, RK_blk, RK_blk_ret, RK_blk_exit, RK_loop, RK_loop_ret, RK_loop_exit, RK_done])
    | fail)
  refine CallP.retT [(p + 17, .vec 3 1 (intR (nats [d]))), (p + 16, .vec 4 1 (boolR ((List.replicate p false).set d true))), (0, .box [.u (lists B), .vec 1 p, .vec 2 p]), (1, .vec 3 1 (intR (lst p (meansAt p B De Me d)))), (2, .vec 22 1 (idR 16 p p)), (3, .vec 3 1 (intR (lst p (leftTo p B De Me d))))]
    [(1, .vec 3 1 (intR (lst p (meansAt p B De Me d)))), (2, .vec 22 1 (idR 16 p p)), (3, .vec 3 1 (intR (lst p (leftTo p B De Me d))))] _ 16 (rowsOb 3 p (paidTo p B De Me d) p) hnx rfl ?_ (by simp) (by simp [rowsOb_len]) (by rfl) (by first | assumption | simp) (by rfl) (by simp) ?_
  · rw [hs0]
    intro i
    simp only [List.cons_append, List.nil_append, getK_cons, getK]
    (repeat' split) <;> first | rfl | omega
  rintro r o1 nx' hle ⟨rfl, rfl, rfl⟩
  refine ⟨by simp [rowsOb_len], ?_⟩
  simp
  repeat' (first
    | (refine H_cons ?_; simp)
    | (refine H_nil ?_; simp)
    | (refine V_sblock ?_; simp)
    | fail)
  have hOkd := hOk d (by omega)
  have hDd := hD d hlt
  have eL : lst p (fun j => if j = d then De d else leftTo p B De Me d j) = lst p (leftTo p B De Me d) := lst_ext fun j _ => by
    by_cases hj : j = d
    · subst hj; simp [leftTo]
    · simp [hj]
  have eP : rowsOb 3 p (fun i j => if j = d then (0 : Int) else paidTo p B De Me d i j) p = rowsOb 3 p (paidTo p B De Me d) p := rowsOb_ext fun i _ j _ => by
    by_cases hj : j = d
    · subst hj; simp [paidTo]
    · simp [hj]
  have hlv0 : levelsOf p B d = restL p B (p - 1) ([d] ++ N0) N0 := by
    unfold levelsOf restL
    rw [show lvls p B p [d] [d] = lvls p B (p - 1 + 1) [d] [d] by rw [show p - 1 + 1 = p by omega], lvls, ← hN0]
  have hseen0 := seen_next (n := p) (B := B) (last := [d]) (seen := [d]) (by simp) (by simp; omega)
  rw [← hN0] at hseen0
  have hL0 := levelsOf_ok p B d
  refine V_loopO (α := { s : List Nat × List Nat × Nat × (Nat → Int) × Int // InvM p B (meansAt p B De Me d) (De d) (levelsOf p B d) s.1 s.2.1 s.2.2.1 s.2.2.2.1 s.2.2.2.2 }) [0, 9, 10, 11, 44, 45] (fun s => [(12, .vec 4 p), (13, .vec 5 s.1.2.1.length)])
    (fun s => (0, .box [.u (lists B), .vec 1 p, .vec 2 p]) :: (1, .vec 3 1 (intR (lst p fun i => meansAt p B De Me d i - s.1.2.2.2.1 i))) :: (2, .vec 22 1 (idR 16 p p)) :: (3, .vec 3 1 (intR (lst p fun j => if j = d then s.1.2.2.2.2 else leftTo p B De Me d j))) ::
      (4, .vec 4 1 (boolR (seenF p s.1.1))) :: (5, .vec 3 1 (intR (nats s.1.2.1))) :: fam 16 (rowsOb 3 p (fun i j => if j = d then s.1.2.2.2.1 i else paidTo p B De Me d i j) p)) (p + 16) (fun s => s.1.2.2.1)
    ⟨([d] ++ N0, N0, p - 1, fun _ => 0, De d), ⟨hseen0.1, hseen0.2, hN0 ▸ nextR_nodup _ _ _ _, fun i hi => (mem_nextR.1 (hN0 ▸ hi)).1, fun h => by
      have : 0 < N0.length := List.length_pos_iff.2 h
      simp; omega, fun i hi => ⟨Int.le_refl _, hOkd.lo i hi⟩, hDd.1, hDd.2, hlv0 ▸ hL0, fun i => by rw [← hlv0]; simp, by rw [← hlv0]; simp⟩⟩ ?_ ?_
  · exact (Wk.ren2 (4) (p + 16) (5) (p + 18) rfl (by simp [hn]) (by simp [hn]) (by simp [hn]) (by simp) (by simp) (by simp) (by simp [wkER, rho2, St.lp, keepE, getK_cons, getK, getK_del, getK_setOb, D.under, D.le, D.ren, pure_intR, under_intR, pure_boolR, under_boolR, rowsOb_len, rowsOb_pure, idR_fix2, Nat.add_assoc, eL, eP] <;> (try (intros; simp_all; done)) <;> (try omega)) (by simp [wkR, wkR_tail2, endsIn_here, endsIn_cons, del_cons, del_fam, rho2, St.lp, getK_cons, getK, getK_del, getK_setOb, obR, leU, pureRow, pureRows, Ob.under, D.under, D.le, D.ren, pure_intR, under_intR, pure_boolR, under_boolR, rowsOb_len, rowsOb_pure, idR_fix2, Nat.add_assoc, eL, eP] <;> (try (intros; simp_all; done)) <;> (try omega)))
  rintro ⟨⟨seen, nxt, f, q, a⟩, hI⟩
  simp only at hI
  simp [St.lp, St.only, keepE, getK_cons, getK]
  obtain ⟨i1, i2, i3, i4, i5, i6, i7, i8, i9, i10, i11⟩ := hI
  have hgl : (lst p fun j => if j = d then a else leftTo p B De Me d j)[d]? = some a := by rw [lst_get _ hlt]; simp
  have hglE : ∀ h : d < (lst p fun j => if j = d then a else leftTo p B De Me d j).length, (lst p fun j => if j = d then a else leftTo p B De Me d j)[d]'h = a := fun h => (List.getElem?_eq_some_iff.1 hgl).2
  have hOkq : OkM p fun i => meansAt p B De Me d i - q i := ⟨fun i hi => by have := i6 i hi; omega, fun i hi => by have := i6 i hi; have := hOkd.hi i hi; omega⟩
  by_cases hgo : 0 < a ∧ nxt ≠ []
  case neg =>
    have hq : (∀ i, i < p → (goL (levelsOf p B d) (meansAt p B De Me d) (De d)).1 i = q i) ∧ (goL (levelsOf p B d) (meansAt p B De Me d) (De d)).2 = a := by
      by_cases hnx : nxt = []
      · rw [i11]
        refine ⟨fun i _ => ?_, ?_⟩
        · rw [i10 i]; simp [restL, hnx, goL]
        · simp [restL, hnx, goL]
      · have ha0 : a = 0 := by
          have : ¬ 0 < a := fun h => hgo ⟨h, hnx⟩
          omega
        subst ha0
        obtain ⟨z1, z2⟩ := goL_zero i9 hOkq
        rw [i11]
        exact ⟨fun i hi => by rw [i10 i, z1 i hi]; omega, z2⟩
    have eM2 : (lst p fun i => meansAt p B De Me d i - q i) = lst p (meansAt p B De Me (d + 1)) := lst_ext fun i hi => by simp only [meansAt]; rw [hq.1 i hi]
    have eL2 : (lst p fun j => if j = d then a else leftTo p B De Me d j) = lst p (leftTo p B De Me (d + 1)) := lst_ext fun j _ => by
      by_cases hj : j = d
      · subst hj; simp [leftTo, leftAt, hq.2]
      · simp only [if_neg hj, leftTo]
        by_cases h : j < d
        · simp [h, show j < d + 1 by omega]
        · simp [h, show ¬ j < d + 1 by omega]
    have eP2 : rowsOb 3 p (fun i j => if j = d then q i else paidTo p B De Me d i j) p = rowsOb 3 p (paidTo p B De Me (d + 1)) p := rowsOb_ext fun i hi j _ => by
      by_cases hj : j = d
      · subst hj; simp [paidTo, paidAt, hq.1 i hi]
      · simp only [if_neg hj, paidTo]
        by_cases h : j < d
        · simp [h, show j < d + 1 by omega]
        · simp [h, show ¬ j < d + 1 by omega]
    have hgo1 : 0 < a → nxt.length = 0 := fun h => by
      by_cases hnx : nxt = []
      · rw [hnx]; rfl
      · exact absurd ⟨h, hnx⟩ hgo
    by_cases ha : 0 < a
    · have hn0 : nxt = [] := List.eq_nil_of_length_eq_zero (hgo1 ha)
      subst hn0
      repeat' (first
    | (refine H_cons ?_; simp [intR_len, intR_getE, lst_len, hlt, hglE, ha])
    | (refine H_nil ?_; simp [intR_len, intR_getE, lst_len, hlt, hglE, ha])
    | (refine ⟨by omega, ?_⟩)
    | (refine V_sseq ?_; simp [intR_len, intR_getE, lst_len, hlt, hglE, ha])
    | (refine V_scond ?_; simp [intR_len, intR_getE, lst_len, hlt, hglE, ha])
    | (refine V_sregion ?_; simp [intR_len, intR_getE, lst_len, hlt, hglE, ha])
    | (refine V_exit ?_; simp [RK_seq, RK_seq_ret, RK_seq_exit, RK_blk, RK_blk_ret, RK_blk_exit, RK_loop, RK_loop_ret, RK_loop_exit, RK_done])
    | fail)
      refine LoopW.next ⟨d + 1, by omega⟩ (by simp; omega) ?_
      exact (Wk.cut rfl (by simp [hn, St.lp]) (by simp [wkO, wkO_tail, endsIn_here, endsIn_cons, del_cons, del_fam, St.lp, getK_cons, getK, Ob.under, D.under, under_rowsD, under_entD, pure_intR, under_intR, rowsOb_len, rowsOb_pure, idR_under2, Nat.add_assoc, eM2, eL2, eP2]) (by simp [wkU, St.lp, keepE, getK_cons, getK, D.under, pure_intR, under_intR, rowsOb_len, rowsOb_pure, idR_under2, Nat.add_assoc, eM2, eL2, eP2]) (by simp [wkE, St.lp, keepE, getK_cons, getK, pure_intR, under_intR, rowsOb_len, rowsOb_pure, idR_under2, Nat.add_assoc, eM2, eL2, eP2] <;> (try (intros; simp_all; done)) <;> (try (intros; omega)) <;> (try grind)))
    · repeat' (first
    | (refine H_cons ?_; simp [intR_len, intR_getE, lst_len, hlt, hglE, ha])
    | (refine H_nil ?_; simp [intR_len, intR_getE, lst_len, hlt, hglE, ha])
    | (refine ⟨by omega, ?_⟩)
    | (refine V_sseq ?_; simp [intR_len, intR_getE, lst_len, hlt, hglE, ha])
    | (refine V_scond ?_; simp [intR_len, intR_getE, lst_len, hlt, hglE, ha])
    | (refine V_sregion ?_; simp [intR_len, intR_getE, lst_len, hlt, hglE, ha])
    | (refine V_exit ?_; simp [RK_seq, RK_seq_ret, RK_seq_exit, RK_blk, RK_blk_ret, RK_blk_exit, RK_loop, RK_loop_ret, RK_loop_exit, RK_done])
    | fail)
      refine LoopW.next ⟨d + 1, by omega⟩ (by simp; omega) ?_
      exact (Wk.cut rfl (by simp [hn, St.lp]) (by simp [wkO, wkO_tail, endsIn_here, endsIn_cons, del_cons, del_fam, St.lp, getK_cons, getK, Ob.under, D.under, under_rowsD, under_entD, pure_intR, under_intR, rowsOb_len, rowsOb_pure, idR_under2, Nat.add_assoc, eM2, eL2, eP2]) (by simp [wkU, St.lp, keepE, getK_cons, getK, D.under, pure_intR, under_intR, rowsOb_len, rowsOb_pure, idR_under2, Nat.add_assoc, eM2, eL2, eP2]) (by simp [wkE, St.lp, keepE, getK_cons, getK, pure_intR, under_intR, rowsOb_len, rowsOb_pure, idR_under2, Nat.add_assoc, eM2, eL2, eP2] <;> (try (intros; simp_all; done)) <;> (try (intros; omega)) <;> (try grind)))
  obtain ⟨ha, hnx⟩ := hgo
  have hnl : 0 < nxt.length := List.length_pos_iff.2 hnx
  have hnl2 : ¬ nxt.length = 0 := by omega
  have hpay := pay_ret p p d B (fun i => meansAt p B De Me d i - q i) (fun i j => if j = d then q i else paidTo p B De Me d i j) nxt a hn60 (Nat.le_refl _) hlt hOkq (fun i hi => by have := i6 i hi; have := hOkd.hi i hi; simp only [if_true, maxC] at *; omega) i4 i3 ⟨i7, i8⟩
  obtain ⟨q', hq'⟩ : ∃ q' : Nat → Int, q' = fun i => q i + payQ nxt (fun i => meansAt p B De Me d i - q i) a i := ⟨_, rfl⟩
  have hpr := fun i hi => payQ_range hOkq i4 i3 i7 (i := i) hi
  have hpl := payLeft_range hOkq i4 i7
  have eA : (lst p fun i => meansAt p B De Me d i - q i - payQ nxt (fun i => meansAt p B De Me d i - q i) a i) = lst p fun i => meansAt p B De Me d i - q' i := lst_ext fun i _ => by simp only [hq']; omega
  have eB : rowsOb 3 p (fun i j => if j = d then q i + payQ nxt (fun i => meansAt p B De Me d i - q i) a i else if j = d then q i else paidTo p B De Me d i j) p = rowsOb 3 p (fun i j => if j = d then q' i else paidTo p B De Me d i j) p := rowsOb_ext fun i _ j _ => by
    simp only [hq']
    by_cases hj : j = d <;> simp [hj]
  simp only [eA, if_true] at hpay
  simp only [eB] at hpay
  have hfun : (fun j => meansAt p B De Me d j - q j - payQ nxt (fun i => meansAt p B De Me d i - q i) a j) = fun j => meansAt p B De Me d j - q' j := funext fun j => by simp only [hq']; omega
  obtain ⟨f', rfl⟩ : ∃ f', f = f' + 1 := ⟨f - 1, by have := i5 hnx; have := seen_len i1 i2; omega⟩
  obtain ⟨N1, hN1⟩ : ∃ N1, N1 = nextR p B seen nxt := ⟨_, rfl⟩
  have hrest : restL p B (f' + 1) seen nxt = nxt :: restL p B f' (seen ++ N1) N1 := by
    rw [restL, if_neg hnx, lvls, ← hN1]; rfl
  have hs1 := seen_next (n := p) (B := B) (last := nxt) i1 i2
  rw [← hN1] at hs1
  have hInv : InvM p B (meansAt p B De Me d) (De d) (levelsOf p B d) (seen ++ N1) N1 f' q' (payLeft nxt (fun i => meansAt p B De Me d i - q i) a) := by
    refine ⟨hs1.1, hs1.2, hN1 ▸ nextR_nodup _ _ _ _, fun i hi => (mem_nextR.1 (hN1 ▸ hi)).1, fun h => ?_, fun i hi => ?_, hpl.1, by omega, ?_, fun i => ?_, ?_⟩
    · have h5 := i5 hnx
      have : 0 < N1.length := List.length_pos_iff.2 h
      rw [List.length_append]; omega
    · have h6 := i6 i hi
      have h7 := hpr i hi
      rw [hq']
      simp only
      omega
    · rw [hrest] at i9; exact i9.tail
    · rw [i10 i, hrest]
      simp only [goL]
      rw [hfun, hq']
      simp only
      omega
    · rw [i11, hrest]
      simp only [goL]
      rw [hfun]
  have hnx2 := fun M' (hM' : p ≤ M') => next_ret p M' 5 4 (by omega) (by omega) (by omega) (by omega) (by omega) B seen nxt hn60 hB i4 (by have := seen_len i3 i4; omega)
  rw [← hN1] at hnx2
  generalize payLeft nxt (fun i => meansAt p B De Me d i - q i) a = a' at hpay hInv hpl
  have hst : (lst p fun j => if j = d then a else leftTo p B De Me d j).set d a' = lst p fun j => if j = d then a' else leftTo p B De Me d j := by
    rw [lst_set]
    refine lst_ext fun j _ => ?_
    by_cases hj : j = d <;> simp [hj]
  repeat' (first
    | (refine H_cons ?_; simp [intR_len, intR_getE, lst_len, hlt, hglE, ha, hnl, hnl2, hnx])
    | (refine H_nil ?_; simp [intR_len, intR_getE, lst_len, hlt, hglE, ha, hnl, hnl2, hnx])
    | (refine V_sseq ?_; simp [intR_len, intR_getE, lst_len, hlt, hglE, ha, hnl, hnl2, hnx])
    | (refine V_scond ?_; simp [intR_len, intR_getE, lst_len, hlt, hglE, ha, hnl, hnl2, hnx])
    | (refine V_skip ?_; simp only [RK_seq, RK_seq_ret, RK_seq_exit, RK_blk, RK_blk_ret, RK_blk_exit, RK_loop, RK_loop_ret, RK_loop_exit, RK_done])
    | fail)
  refine CallP.retS [(0, .box [.u (lists B), .vec 1 p, .vec 2 p]), (1, .vec 3 1 (intR (lst p fun i => meansAt p B De Me d i - q i))), (2, .vec 22 1 (idR 16 p p)), (3, .vec 3 1 (intR (lst p fun j => if j = d then a else leftTo p B De Me d j))), (4, .vec 4 1 (boolR (seenF p seen))), (5, .vec 3 1 (intR (nats nxt)))]
    [(3, .vec 3 1 (intR (lst p fun j => if j = d then a else leftTo p B De Me d j))), (4, .vec 4 1 (boolR (seenF p seen)))]
    [(0, .box [.u (lists B), .vec 1 p, .vec 2 p]), (1, .vec 3 1 (intR (lst p fun i => meansAt p B De Me d i - q i))), (2, .vec 22 1 (idR 16 p p)), (5, .vec 3 1 (intR (nats nxt)))]
    16 (rowsOb 3 p (fun i j => if j = d then q i else paidTo p B De Me d i j) p) hpay rfl ?_ (by simp [rowsOb_len]) (by rfl) (by first | assumption | simp) (by rfl) (by simp) ?_
  · intro i
    simp only [List.cons_append, List.nil_append, getK_cons, getK]
    (repeat' split) <;> first | rfl | omega
  rintro r o1 nx' hle ⟨rfl, rfl⟩
  have hle : p + 16 ≤ nx' := hle
  obtain ⟨M', rfl⟩ : ∃ M', nx' = M' + 16 := ⟨nx' - 16, by omega⟩
  have hpM : p ≤ M' := by omega
  have hpM1 : p ≤ M' + 1 := by omega
  have hnx3 := hnx2 M' hpM
  simp
  repeat' (first
    | (refine H_cons ?_; simp [intR_len, intR_getE, intR_set, lst_len, hlt, hst])
    | (refine H_nil ?_; simp [intR_len, intR_getE, intR_set, lst_len, hlt, hst])
    | (refine V_sregion ?_; simp [intR_len, intR_getE, intR_set, lst_len, hlt, hst])
    | fail)
  refine CallP.retT [(3, .vec 3 1 (intR (lst p fun j => if j = d then a' else leftTo p B De Me d j))), (4, .vec 4 1 (boolR (seenF p seen))), (0, .box [.u (lists B), .vec 1 p, .vec 2 p]), (1, .vec 3 1 (intR (lst p fun i => meansAt p B De Me d i - q' i))), (2, .vec 22 1 (idR 16 p p)), (5, .vec 3 1 (intR (nats nxt)))]
    [(3, .vec 3 1 (intR (lst p fun j => if j = d then a' else leftTo p B De Me d j))), (1, .vec 3 1 (intR (lst p fun i => meansAt p B De Me d i - q' i))), (2, .vec 22 1 (idR 16 p p))] _ 16 (rowsOb 3 p (fun i j => if j = d then q' i else paidTo p B De Me d i j) p) hnx3 rfl ?_ (by simp) (by simp [rowsOb_len]) (by rfl) (by first | assumption | simp) (by rfl) (by simp) ?_
  · intro i
    simp only [List.cons_append, List.nil_append, getK_cons, getK]
    (repeat' split) <;> first | rfl | omega
  rintro r o1 nx' hle2 ⟨rfl, rfl, rfl⟩
  refine ⟨by simp [rowsOb_len, hpM], ?_⟩
  simp
  repeat' (first
    | (refine H_cons ?_; simp)
    | (refine H_nil ?_; simp)
    | fail)
  refine LoopW.next ⟨(seen ++ N1, N1, f', q', a'), hInv⟩ (by simp) ?_
  exact (Wk.ren1 (5) (M' + 16) rfl (by simp [hn]) (by simp [hn]) (by simp [pure_intR, under_intR, pure_boolR, under_boolR, rowsOb_len, rowsOb_pure, idR_fix1, Nat.add_assoc, hpM, hpM1]) (by simp [wkER, rho1, St.lp, keepE, getK_cons, getK, getK_del, getK_setOb, D.under, D.le, D.ren, pure_intR, under_intR, pure_boolR, under_boolR, rowsOb_len, rowsOb_pure, idR_fix1, Nat.add_assoc, hpM, hpM1] <;> (try (intros; simp_all; done)) <;> (try omega)) (by simp [wkR, wkR_tail1, endsIn_here, endsIn_cons, del_cons, del_fam, rho1, St.lp, getK_cons, getK, getK_del, getK_setOb, obR, leU, pureRow, pureRows, Ob.under, D.under, D.le, D.ren, pure_intR, under_intR, pure_boolR, under_boolR, rowsOb_len, rowsOb_pure, idR_fix1, Nat.add_assoc, hpM, hpM1] <;> (try (intros; simp_all; done)) <;> (try omega)))
end Go.Proofs.Ytjmddlekokodfaa
