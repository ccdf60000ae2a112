/- The reference: shares, names, clauses, the check. -/
import Derived.Test.YtehlmagdlkcifaaUk
set_option linter.all false
set_option maxRecDepth 100000
set_option maxHeartbeats 8000000
namespace Go.Proofs.Ytehlmagdlkcifaa
open Go Go.VL
attribute [local simp] hcons hstep evPure opd uOf putOK St.put St.at getK binD binI binS binB nilD aggD eqUs cmpK lookD lookR rangeD nextD entryD keyD valU keyU lookK mkV entD_nil lookK_entD updK_entD1 updK_entD2 updK_entD3 allUE allUE_entD makeMapD mapUpdD mapEff updK valM Key.kk shiftI arith unD convD pickD loadD cellsAt fieldAddrD fieldD indexAddrD indexD sliceD cutD lenD minmaxD nilCheckD buildD fillD cellsD isOne ones setAll mkAgg allU allocD boxD storeD St.add buildSliceD appendD rowsOf makeD setOb getK_setOb getK_del getK_cons stripL strip guardTmp entry chunks zcells valD argsV argsW argW argU1 argU0 argsU0 argsU1 calleeOf scalarD scalarU delAll effD St.effS RK_seq RK_seq_ret RK_seq_exit RK_blk RK_blk_ret RK_blk_exit RK_loop RK_loop_ret RK_loop_exit RK_done vs_seq vs_block vs_skip vs_label vs_exit vs_ret vs_cond vs_region vs_loop vs_draw vs_range vs_scope applyW mkD rdIds lentIds callOf calleeOf freeOp D.ids Op.operands Call.operands isEffOp IntKind.bits allU2 allU2_append List.take_of_length_le List.range_succ
attribute [local irreducible] V G H HD HD2 RunK Eff CallP CallV EndOK Fun Ret FinOK LoopI LoopW EndW
-- shares
abbrev SB := List (List UInt8 × Bool)
def bF (sh : SB) : List UInt8 → Bool := fun n => (lastA sh n).getD false
theorem rshare_fun (sh : SB) (hlen : sh.length ≤ 1000) : ∀ (d : Nat) (e : Exp), rightB d e = true → Fun Try.prog 43 [.u (.sl (sh.map fun p => [.str p.1])), .u (.sl (sh.map fun p => [.bool p.2])), eagg e] (· = .u (.bool (shareS (bF sh) e)))
  | 0, e, h => by simp [rightB] at h
  | d + 1, e, h => by
    obtain ⟨h1, h2, h3, h4⟩ := right_args h
    rw [shareS_eq]
    by_cases h0 : e.op = 0
    · rw [if_pos h0]
      (refine Fun.of_body Try.func43 rfl (by simp) fun Γ hn => ?_); simp only [entry, List.zipIdx_cons, List.zipIdx_nil, List.map_cons, List.map_nil, Nat.zero_add, Try.ntmps43]
      simp only [eagg]
      repeat' (first
    | (refine H_cons ?_; simp [h0])
    | (refine H_nil ?_; simp [h0])
    | (refine V_sseq ?_; simp [h0])
    | (refine V_scond ?_; simp [h0])
    | (refine V_sblock ?_; simp [h0])
    | (refine V_ret ?_; simp only [RK_seq, RK_seq_ret, RK_seq_exit, RK_blk, RK_blk_ret, RK_blk_exit, RK_loop, RK_loop_ret, RK_loop_exit, RK_done])
    | fail)
      (refine EndOK.val (.inr rfl) ?_; simp [resD, oneOrTup, pureD, Try.results43])
    rw [if_neg h0]
    by_cases hnm : e.op = 1
    · rw [if_pos hnm]
      (refine Fun.of_body Try.func43 rfl (by simp) fun Γ hn => ?_); simp only [entry, List.zipIdx_cons, List.zipIdx_nil, List.map_cons, List.map_nil, Nat.zero_add, Try.ntmps43]
      simp only [eagg]
      repeat' (first
    | (refine H_cons ?_; simp [h0, hnm])
    | (refine H_nil ?_; simp [h0, hnm])
    | (refine ⟨by omega, ?_⟩)
    | (refine V_sseq ?_; simp [h0, hnm])
    | (refine V_scond ?_; simp [h0, hnm])
    | (refine V_sblock ?_; simp [h0, hnm])
    | fail)
      refine V_loopF (α := { k : Nat // k ≤ sh.length ∧ ∀ x ∈ sh.drop k, ¬ x.1 = e.s }) [0, 1, 5, 13] (fun k => [(7, .u (.int .i64 ((k.1 : Int) - 1)))]) (fun k => k.1) ⟨sh.length, by omega, by simp⟩ ?_ ?_
      · exact (Wk.cut rfl (by simp [hn]) (by simp [wkO, St.lp, getK_cons, getK, Ob.under, D.under, under_rowsD, under_entD]) (by simp [wkU, St.lp, keepE, getK_cons, getK, D.under]) (by simp [wkE, St.lp, keepE, getK_cons, getK] <;> (try (intros; simp_all; done)) <;> (try (intros; omega)) <;> (try grind)))
      rintro ⟨k, hk, hd⟩
      simp [St.lp, St.only, keepE, getK_cons, getK]
      cases k with
      | zero =>
        rw [List.drop_zero] at hd
        have hl := lastA_none hd
        repeat' (first
    | (refine H_cons ?_; simp)
    | (refine H_nil ?_; simp)
    | (refine V_sseq ?_; simp)
    | (refine V_scond ?_; simp)
    | (refine V_ret ?_; simp only [RK_seq, RK_seq_ret, RK_seq_exit, RK_blk, RK_blk_ret, RK_blk_exit, RK_loop, RK_loop_ret, RK_loop_exit, RK_done])
    | (refine V_exit ?_; simp [RK_seq, RK_seq_ret, RK_seq_exit, RK_blk, RK_blk_ret, RK_blk_exit, RK_loop, RK_loop_ret, RK_loop_exit, RK_done])
    | fail)
        (refine EndOK.val (.inr rfl) ?_; simp [resD, oneOrTup, pureD, Try.results43])
        simp [bF, hl]
      | succ k =>
        obtain ⟨p, hp⟩ : ∃ p, sh[k]? = some p := ⟨sh[k], List.getElem?_eq_getElem (by omega)⟩
        have ek : ((k + 1 : Nat) : Int) - 1 = k := by omega
        rw [ek]
        by_cases hpn : p.1 = e.s
        · have hl := lastA_at hd hp hpn
          repeat' (first
    | (refine H_cons ?_; simp [hp, hpn])
    | (refine HD_cons ?_; simp [hp, hpn])
    | (refine H_nil ?_; simp [hp, hpn])
    | (refine V_sseq ?_; simp [hp, hpn])
    | (refine V_scond ?_; simp [hp, hpn])
    | (refine HD_nil ?_)
    | (refine hk _ ?_; clear hk k; simp only [RK_seq, RK_seq_ret, RK_seq_exit, RK_blk, RK_blk_ret, RK_blk_exit, RK_loop, RK_loop_ret, RK_loop_exit, RK_done])
    | (refine V_drawV rfl (by kernel_rfl) (by kernel_rfl) fun k hk => ?_; simp [hp, hpn])
    | (refine V_ret ?_; simp only [RK_seq, RK_seq_ret, RK_seq_exit, RK_blk, RK_blk_ret, RK_blk_exit, RK_loop, RK_loop_ret, RK_loop_exit, RK_done])
    | (refine V_skip ?_; simp only [RK_seq, RK_seq_ret, RK_seq_exit, RK_blk, RK_blk_ret, RK_blk_exit, RK_loop, RK_loop_ret, RK_loop_exit, RK_done])
    | fail)
          (refine EndOK.val (.inr rfl) ?_; simp [resD, oneOrTup, pureD, Try.results43])
          simp [bF, hl]
        · repeat' (first
    | (refine H_cons ?_; simp [hp, hpn])
    | (refine HD_cons ?_; simp [hp, hpn])
    | (refine H_nil ?_; simp [hp, hpn])
    | (refine ⟨by omega, ?_⟩)
    | (refine V_sseq ?_; simp [hp, hpn])
    | (refine V_scond ?_; simp [hp, hpn])
    | (refine HD_nil ?_)
    | (refine hk _ ?_; clear hk k; simp only [RK_seq, RK_seq_ret, RK_seq_exit, RK_blk, RK_blk_ret, RK_blk_exit, RK_loop, RK_loop_ret, RK_loop_exit, RK_done])
    | (refine V_drawV rfl (by kernel_rfl) (by kernel_rfl) fun k hk => ?_; simp [hp, hpn])
    | (refine V_sregion ?_; simp [hp, hpn])
    | (refine V_skip ?_; simp only [RK_seq, RK_seq_ret, RK_seq_exit, RK_blk, RK_blk_ret, RK_blk_exit, RK_loop, RK_loop_ret, RK_loop_exit, RK_done])
    | fail)
          refine LoopW.next ⟨k, by omega, drop_pred hp hd hpn⟩ (by simp) ?_
          exact (Wk.cut rfl (by simp [hn]) (by simp [wkO, St.lp, getK_cons, getK, Ob.under, D.under, under_rowsD, under_entD]) (by simp [wkU, St.lp, keepE, getK_cons, getK, D.under]) (by simp [wkE, St.lp, keepE, getK_cons, getK] <;> (try (intros; simp_all; done)) <;> (try (intros; omega)) <;> (try grind)))
    rw [if_neg hnm]
    have hr := h4 h0 hnm
    by_cases hA : e.op = 2 ∨ e.op = 3 ∨ e.op = 6 ∨ e.op = 7
    · rw [if_pos hA]
      have hl : e.args.length = 2 := by
        rcases hA with ha | ha | ha | ha <;> rw [ha] at h1 <;> simp [operandsI] at h1 <;> omega
      obtain ⟨a, b, hab⟩ : ∃ a b, e.args = [a, b] := by
        match hq : e.args, hl with
        | [a, b], _ => exact ⟨a, b, rfl⟩
      have h5 := rshare_fun sh hlen d a (hr a (by simp [hab]))
      simp only [eagg] at h5
      rw [hab, shareN]
      rcases hA with ha | ha | ha | ha
      all_goals
        (refine Fun.of_body Try.func43 rfl (by simp) fun Γ hn => ?_); simp only [entry, List.zipIdx_cons, List.zipIdx_nil, List.map_cons, List.map_nil, Nat.zero_add, Try.ntmps43]
        simp only [eagg]
        repeat' (first
    | (refine H_cons ?_; simp [ha, hab, a.row_eq, b.row_eq])
    | (refine H_nil ?_; simp [ha, hab, a.row_eq, b.row_eq])
    | (refine V_sseq ?_; simp [ha, hab, a.row_eq, b.row_eq])
    | (refine V_scond ?_; simp [ha, hab, a.row_eq, b.row_eq])
    | (refine V_sblock ?_; simp [ha, hab, a.row_eq, b.row_eq])
    | (refine V_sregion ?_; simp [ha, hab, a.row_eq, b.row_eq])
    | (refine V_ret ?_; simp only [RK_seq, RK_seq_ret, RK_seq_exit, RK_blk, RK_blk_ret, RK_blk_exit, RK_loop, RK_loop_ret, RK_loop_exit, RK_done])
    | (refine V_skip ?_; simp only [RK_seq, RK_seq_ret, RK_seq_exit, RK_blk, RK_blk_ret, RK_blk_exit, RK_loop, RK_loop_ret, RK_loop_exit, RK_done])
    | (refine CallP.fun_ (h5) (by first | rfl | fail) (by first | assumption | (simp; done) | fail) (by first | (simp [ha, hab, a.row_eq, b.row_eq]; done) | (simp [ha, hab, a.row_eq, b.row_eq]; rfl) | fail) (by first | (simp; done) | fail) (fun d hd => ?_); subst hd; (try simp [ha, hab, a.row_eq, b.row_eq]))
    | fail)
        (refine EndOK.val (.inr rfl) ?_; simp [resD, oneOrTup, pureD, Try.results43])
    rw [if_neg hA]
    by_cases hB : e.op = 4
    · rw [if_pos hB]
      have hl : e.args.length = 2 := by rw [hB] at h1; simp [operandsI] at h1; omega
      obtain ⟨a, b, hab⟩ : ∃ a b, e.args = [a, b] := by
        match hq : e.args, hl with
        | [a, b], _ => exact ⟨a, b, rfl⟩
      have h5 := rshare_fun sh hlen d a (hr a (by simp [hab]))
      have h6 := rshare_fun sh hlen d b (hr b (by simp [hab]))
      simp only [eagg] at h5 h6
      rw [hab, shareN, shareN, shareN]
      generalize shareS (bF sh) a = x1 at h5 ⊢
      generalize shareS (bF sh) b = x2 at h6 ⊢
      (refine Fun.of_body Try.func43 rfl (by simp) fun Γ hn => ?_); simp only [entry, List.zipIdx_cons, List.zipIdx_nil, List.map_cons, List.map_nil, Nat.zero_add, Try.ntmps43]
      simp only [eagg]
      repeat' (first
    | (refine H_cons ?_; simp [hB, hab, a.row_eq, b.row_eq])
    | (refine H_nil ?_; simp [hB, hab, a.row_eq, b.row_eq])
    | (refine V_sseq ?_; simp [hB, hab, a.row_eq, b.row_eq])
    | (refine V_scond ?_; simp [hB, hab, a.row_eq, b.row_eq])
    | (refine V_sblock ?_; simp [hB, hab, a.row_eq, b.row_eq])
    | (refine V_sregion ?_; simp [hB, hab, a.row_eq, b.row_eq])
    | (refine V_ret ?_; simp only [RK_seq, RK_seq_ret, RK_seq_exit, RK_blk, RK_blk_ret, RK_blk_exit, RK_loop, RK_loop_ret, RK_loop_exit, RK_done])
    | (refine ⟨fun hc => ?_, fun hc => ?_⟩ <;> (try (exfalso; omega)))
    | (refine CallP.fun_ (h5) (by first | rfl | fail) (by first | assumption | (simp; done) | fail) (by first | (simp [hB, hab, a.row_eq, b.row_eq]; done) | (simp [hB, hab, a.row_eq, b.row_eq]; rfl) | fail) (by first | (simp; done) | fail) (fun d hd => ?_); subst hd; (try simp [hB, hab, a.row_eq, b.row_eq]))
    | (refine CallP.fun_ (h6) (by first | rfl | fail) (by first | assumption | (simp; done) | fail) (by first | (simp [hB, hab, a.row_eq, b.row_eq]; done) | (simp [hB, hab, a.row_eq, b.row_eq]; rfl) | fail) (by first | (simp; done) | fail) (fun d hd => ?_); subst hd; (try simp [hB, hab, a.row_eq, b.row_eq]))
    | fail)
      all_goals
        (refine EndOK.val (.inr rfl) ?_; simp [resD, oneOrTup, pureD, Try.results43])
      all_goals (simp_all; done)
    rw [if_neg hB]
    by_cases hC : e.op = 13
    · rw [if_pos hC]
      have hl : e.args.length = 3 := by rw [hC] at h1; simp [operandsI] at h1; omega
      obtain ⟨a, b, c, hab⟩ : ∃ a b c, e.args = [a, b, c] := by
        match hq : e.args, hl with
        | [a, b, c], _ => exact ⟨a, b, c, rfl⟩
      have h5 := rshare_fun sh hlen d b (hr b (by simp [hab]))
      simp only [eagg] at h5
      rw [hab, shareN, shareN]
      (refine Fun.of_body Try.func43 rfl (by simp) fun Γ hn => ?_); simp only [entry, List.zipIdx_cons, List.zipIdx_nil, List.map_cons, List.map_nil, Nat.zero_add, Try.ntmps43]
      simp only [eagg]
      repeat' (first
    | (refine H_cons ?_; simp [hC, hab, a.row_eq, b.row_eq, c.row_eq])
    | (refine H_nil ?_; simp [hC, hab, a.row_eq, b.row_eq, c.row_eq])
    | (refine V_sseq ?_; simp [hC, hab, a.row_eq, b.row_eq, c.row_eq])
    | (refine V_scond ?_; simp [hC, hab, a.row_eq, b.row_eq, c.row_eq])
    | (refine V_sblock ?_; simp [hC, hab, a.row_eq, b.row_eq, c.row_eq])
    | (refine V_sregion ?_; simp [hC, hab, a.row_eq, b.row_eq, c.row_eq])
    | (refine V_ret ?_; simp only [RK_seq, RK_seq_ret, RK_seq_exit, RK_blk, RK_blk_ret, RK_blk_exit, RK_loop, RK_loop_ret, RK_loop_exit, RK_done])
    | (refine CallP.fun_ (h5) (by first | rfl | fail) (by first | assumption | (simp; done) | fail) (by first | (simp [hC, hab, a.row_eq, b.row_eq, c.row_eq]; done) | (simp [hC, hab, a.row_eq, b.row_eq, c.row_eq]; rfl) | fail) (by first | (simp; done) | fail) (fun d hd => ?_); subst hd; (try simp [hC, hab, a.row_eq, b.row_eq, c.row_eq]))
    | fail)
      (refine EndOK.val (.inr rfl) ?_; simp [resD, oneOrTup, pureD, Try.results43])
    rw [if_neg hC]
    have hD : ¬ e.op = 2 ∧ ¬ e.op = 3 ∧ ¬ e.op = 6 ∧ ¬ e.op = 7 := by omega
    (refine Fun.of_body Try.func43 rfl (by simp) fun Γ hn => ?_); simp only [entry, List.zipIdx_cons, List.zipIdx_nil, List.map_cons, List.map_nil, Nat.zero_add, Try.ntmps43]
    simp only [eagg]
    repeat' (first
    | (refine H_cons ?_; simp [h0, hnm, hB, hC, hD.1, hD.2.1, hD.2.2.1, hD.2.2.2])
    | (refine H_nil ?_; simp [h0, hnm, hB, hC, hD.1, hD.2.1, hD.2.2.1, hD.2.2.2])
    | (refine V_sseq ?_; simp [h0, hnm, hB, hC, hD.1, hD.2.1, hD.2.2.1, hD.2.2.2])
    | (refine V_scond ?_; simp [h0, hnm, hB, hC, hD.1, hD.2.1, hD.2.2.1, hD.2.2.2])
    | (refine V_sblock ?_; simp [h0, hnm, hB, hC, hD.1, hD.2.1, hD.2.2.1, hD.2.2.2])
    | (refine V_sregion ?_; simp [h0, hnm, hB, hC, hD.1, hD.2.1, hD.2.2.1, hD.2.2.2])
    | (refine V_ret ?_; simp only [RK_seq, RK_seq_ret, RK_seq_exit, RK_blk, RK_blk_ret, RK_blk_exit, RK_loop, RK_loop_ret, RK_loop_exit, RK_done])
    | (refine V_skip ?_; simp only [RK_seq, RK_seq_ret, RK_seq_exit, RK_blk, RK_blk_ret, RK_blk_exit, RK_loop, RK_loop_ret, RK_loop_exit, RK_done])
    | fail)
    (refine EndOK.val (.inr rfl) ?_; simp [resD, oneOrTup, pureD, Try.results43])
def shOf (lets : List Let) : SB := lets.foldl (fun sh l => sh ++ [(l.name, shareS (bF sh) l.body)]) []
theorem shOf_succ {lets : List Let} {i : Nat} {l : Let} (h : lets[i]? = some l) : shOf (lets.take (i + 1)) = shOf (lets.take i) ++ [(l.name, shareS (bF (shOf (lets.take i))) l.body)] := foldl_succ _ _ h
theorem shOf_len (lets : List Let) : (shOf lets).length = lets.length := by
  unfold shOf
  have : ∀ (l : List Let) (s : SB), (l.foldl (fun sh l => sh ++ [(l.name, shareS (bF sh) l.body)]) s).length = s.length + l.length := by
    intro l
    induction l with
    | nil => intro s; simp
    | cons a l ih => intro s; rw [List.foldl_cons, ih]; simp; omega
  simpa using this lets []
def shareR (lets : List Let) (e : Exp) : Bool := rightAll lets e && shareS (bF (shOf lets)) e
theorem rights_out {lets : List Let} {e : Exp} (h : rightAll lets e = true) : lets.length ≤ 20 ∧ rightB 12 e = true ∧ ∀ l ∈ lets, rightB 12 l.body = true := by
  simp only [rightAll, Bool.and_eq_true, decide_eq_true_eq, Bool.not_eq_true', List.any_eq_false] at h
  exact ⟨h.1.1, h.1.2, fun l hl => by simpa using h.2 l hl⟩
theorem rShare_fun (lets : List Let) (e : Exp) : Fun Try.prog 15 [.u (letsU lets), eagg e] (· = .u (.bool (shareR lets e))) := by
  have h1 := rights_fun lets e
  have hra := rights_out (lets := lets) (e := e)
  simp only [eagg, letsU] at h1 ⊢
  unfold shareR
  generalize rightAll lets e = ra at h1 hra ⊢
  (refine Fun.of_body Try.func15 rfl (by simp) fun Γ hn => ?_); simp only [entry, List.zipIdx_cons, List.zipIdx_nil, List.map_cons, List.map_nil, Nat.zero_add, Try.ntmps15]
  cases ra
  · repeat' (first
    | (refine H_cons ?_; simp)
    | (refine H_nil ?_; simp)
    | (refine V_sseq ?_; simp)
    | (refine V_scond ?_; simp)
    | (refine V_ret ?_; simp only [RK_seq, RK_seq_ret, RK_seq_exit, RK_blk, RK_blk_ret, RK_blk_exit, RK_loop, RK_loop_ret, RK_loop_exit, RK_done])
    | (refine CallP.fun_ (h1) (by first | rfl | fail) (by first | assumption | (simp; done) | fail) (by first | (simp; done) | (simp; rfl) | fail) (by first | (simp; done) | fail) (fun d hd => ?_); subst hd; (try simp))
    | fail)
    (refine EndOK.val (.inr rfl) ?_; simp [resD, oneOrTup, pureD, Try.results15])
  obtain ⟨h20, hre, hrl⟩ := hra rfl
  repeat' (first
    | (refine H_cons ?_; simp)
    | (refine H_nil ?_; simp)
    | (refine V_sseq ?_; simp)
    | (refine V_scond ?_; simp)
    | (refine V_sblock ?_; simp)
    | (refine V_skip ?_; simp only [RK_seq, RK_seq_ret, RK_seq_exit, RK_blk, RK_blk_ret, RK_blk_exit, RK_loop, RK_loop_ret, RK_loop_exit, RK_done])
    | (refine CallP.fun_ (h1) (by first | rfl | fail) (by first | assumption | (simp; done) | fail) (by first | (simp; done) | (simp; rfl) | fail) (by first | (simp; done) | fail) (fun d hd => ?_); subst hd; (try simp))
    | fail)
  refine V_wk _ (Wk.own 5 9 1 (by decide) rfl) ?_
  simp [St.own]
  refine V_wk _ (Wk.own 6 4 1 (by decide) rfl) ?_
  simp [St.own]
  refine V_loopO (α := { i : Nat // i ≤ lets.length }) [0, 3] (fun i => [(5, .vec 1 i.1), (6, .vec 2 i.1), (7, .u (.int .i64 i.1))])
    (fun i => [(1, .vec 9 1 (rowsD ((shOf (lets.take i.1)).map fun p => [U.str p.1]))), (2, .vec 4 1 (rowsD ((shOf (lets.take i.1)).map fun p => [U.bool p.2]))), (0, .box [.u (.int .i64 e.op), .u (.int .i64 e.n), .u (.int .i64 e.unit), .u (.str e.s), .u (.sl (e.args.map Exp.row))])]) 3
    (fun i => lets.length - i.1) ⟨0, by omega⟩ ?_ ?_
  · exact (Wk.ren ((fun i => i)) rfl (by simp [hn]) (by simp [wkER, St.lp, keepE, getK_cons, getK, getK_del, getK_setOb, D.under, D.le, D.ren, shOf] <;> (try (intros; simp_all; done)) <;> (try omega)) (by simp [wkR, St.lp, getK_cons, getK, getK_del, getK_setOb, obR, leU, pureRow, pureRows, Ob.under, D.under, D.le, D.ren, shOf] <;> (try (intros; simp_all; done)) <;> (try omega)) (by simp))
  rintro ⟨k, hk⟩
  simp [St.lp, St.only, keepE, getK_cons, getK]
  have hsl := shOf_len (lets.take k)
  rw [List.length_take, Nat.min_eq_left hk] at hsl
  rcases hy : lets[k]? with _ | l
  · have hgk : lets.length ≤ k := by simpa using hy
    obtain rfl : k = lets.length := by omega
    have h5 := rshare_fun (shOf lets) (by rw [shOf_len]; omega) 12 e hre
    simp only [eagg] at h5
    rw [List.take_length] at hsl
    repeat' (first
    | (refine H_cons ?_; simp [hy, hsl])
    | (refine H_nil ?_; simp [hy, hsl])
    | (refine V_sseq ?_; simp [hy, hsl])
    | (refine V_scond ?_; simp [hy, hsl])
    | (refine V_ret ?_; simp only [RK_seq, RK_seq_ret, RK_seq_exit, RK_blk, RK_blk_ret, RK_blk_exit, RK_loop, RK_loop_ret, RK_loop_exit, RK_done])
    | (refine V_exit ?_; simp [RK_seq, RK_seq_ret, RK_seq_exit, RK_blk, RK_blk_ret, RK_blk_exit, RK_loop, RK_loop_ret, RK_loop_exit, RK_done])
    | (refine CallP.fun_ (h5) (by first | rfl | fail) (by first | assumption | (simp; done) | fail) (by first | (simp [hy, hsl]; done) | (simp [hy, hsl]; rfl) | fail) (by first | (simp; done) | fail) (fun d hd => ?_); subst hd; (try simp [hy, hsl]))
    | fail)
    (refine EndOK.val (.inr rfl) ?_; simp [resD, oneOrTup, pureD, Try.results15])
  · have hlk : k < lets.length := (List.getElem?_eq_some_iff.1 hy).1
    have hsu := shOf_succ hy
    have h5 := rshare_fun (shOf (lets.take k)) (by rw [hsl]; omega) 12 l.body (hrl l (List.mem_of_getElem? hy))
    simp only [eagg] at h5
    generalize shareS (bF (shOf (lets.take k))) l.body = r at h5 hsu
    repeat' (first
    | (refine H_cons ?_; simp [hy, hsl])
    | (refine H_nil ?_; simp [hy, hsl])
    | (refine ⟨by omega, ?_⟩)
    | (refine V_sseq ?_; simp [hy, hsl])
    | (refine V_scond ?_; simp [hy, hsl])
    | (refine V_sregion ?_; simp [hy, hsl])
    | (refine V_skip ?_; simp only [RK_seq, RK_seq_ret, RK_seq_exit, RK_blk, RK_blk_ret, RK_blk_exit, RK_loop, RK_loop_ret, RK_loop_exit, RK_done])
    | (refine ⟨?_, by omega⟩)
    | (intro hc <;> (try (exfalso; omega)))
    | (refine CallP.fun_ (h5) (by first | rfl | fail) (by first | assumption | (simp; done) | fail) (by first | (simp [hy, hsl]; done) | (simp [hy, hsl]; rfl) | fail) (by first | (simp; done) | fail) (fun d hd => ?_); subst hd; (try simp [hy, hsl]))
    | fail)
    refine LoopW.next ⟨k + 1, by omega⟩ (by simp; omega) ?_
    exact (Wk.ren ((fun i => if i = 1 then 4 else if i = 2 then 6 else i)) rfl (by simp [hn]) (by simp [wkER, St.lp, keepE, getK_cons, getK, getK_del, getK_setOb, D.under, D.le, D.ren, hsu] <;> (try (intros; simp_all; done)) <;> (try omega)) (by simp [wkR, St.lp, getK_cons, getK, getK_del, getK_setOb, obR, leU, pureRow, pureRows, Ob.under, D.under, D.le, D.ren, hsu] <;> (try (intros; simp_all; done)) <;> (try omega)) (by simp))
-- names
theorem of_fun (n : List UInt8) (u : Int) : Fun Try.prog 44 [.u (.str n), .u (.int .i64 u)] (· = .u (.agg [.str n, .int .i64 u, .int .i64 0])) := by
  (refine Fun.of_body Try.func44 rfl (by simp) fun Γ hn => ?_); simp only [entry, List.zipIdx_cons, List.zipIdx_nil, List.map_cons, List.map_nil, Nat.zero_add, Try.ntmps44]
  repeat' (first
    | (refine H_cons ?_; simp)
    | (refine H_nil ?_; simp)
    | (refine V_sseq ?_; simp)
    | (refine V_ret ?_; simp only [RK_seq, RK_seq_ret, RK_seq_exit, RK_blk, RK_blk_ret, RK_blk_exit, RK_loop, RK_loop_ret, RK_loop_exit, RK_done])
    | fail)
  (refine EndOK.val (.inr rfl) ?_; simp [resD, oneOrTup, pureD, Try.results44])
def namesS (c : List UInt8) : List Var :=
  if c = [100, 117, 101] then [⟨[109, 101, 109, 98, 101, 114, 115], 1, 0⟩, ⟨[112, 101, 114, 105, 111, 100], 1, 0⟩, ⟨[108, 97, 115, 116], 1, 0⟩, ⟨[97, 103, 101], 2, 0⟩]
  else if c = [102, 105, 110, 101] then [⟨[108, 97, 116, 101], 2, 0⟩, ⟨[109, 101, 109, 98, 101, 114, 115], 1, 0⟩, ⟨[112, 101, 114, 105, 111, 100], 1, 0⟩, ⟨[108, 97, 115, 116], 1, 0⟩, ⟨[97, 103, 101], 2, 0⟩]
  else if c = [112, 97, 121] then [⟨[112, 111, 116], 3, 0⟩, ⟨[98, 105, 100], 3, 0⟩, ⟨[109, 101, 109, 98, 101, 114, 115], 1, 0⟩, ⟨[112, 101, 114, 105, 111, 100], 1, 0⟩]
  else if c = [99, 111, 118, 101, 114] then [⟨[112, 97, 105, 100], 3, 0⟩, ⟨[99, 108, 97, 105, 109, 115], 1, 0⟩, ⟨[97, 103, 101], 2, 0⟩, ⟨[109, 101, 109, 98, 101, 114, 115], 1, 0⟩]
  else if c = [104, 111, 108, 100] then [⟨[109, 101, 109, 98, 101, 114, 115], 1, 0⟩, ⟨[104, 111, 108, 100, 115], 3, 0⟩]
  else []
theorem rNames_fun (c : List UInt8) : Fun Try.prog 18 [.u (.str c)] (· = .u (varsU (namesS c))) := by
  have a1 := of_fun [109, 101, 109, 98, 101, 114, 115] 1
  have a2 := of_fun [112, 101, 114, 105, 111, 100] 1
  have a3 := of_fun [108, 97, 115, 116] 1
  have a4 := of_fun [97, 103, 101] 2
  have a5 := of_fun [108, 97, 116, 101] 2
  have a6 := of_fun [112, 111, 116] 3
  have a7 := of_fun [98, 105, 100] 3
  have a8 := of_fun [112, 97, 105, 100] 3
  have a9 := of_fun [99, 108, 97, 105, 109, 115] 1
  have a10 := of_fun [104, 111, 108, 100, 115] 3
  unfold varsU namesS
  (refine Fun.of_bodyW Try.func18 rfl (by simp) fun Γ hn => ?_); simp only [entry, List.zipIdx_cons, List.zipIdx_nil, List.map_cons, List.map_nil, Nat.zero_add, Try.ntmps18]
  repeat' (first
    | (refine H_cons ?_; simp [zcells, chunks])
    | (refine HD2_val rfl ?_; simp [zcells, chunks])
    | (refine HD2_chg rfl ?_; simp [zcells, chunks])
    | (refine H_nil ?_; simp [zcells, chunks])
    | (refine V_sseq ?_; simp [zcells, chunks])
    | (refine V_scond ?_; simp [zcells, chunks])
    | (refine HD2_nil (hC _ (by kernel_rfl)) (hk _ ?_); clear hC hk C k; simp only [RK_seq, RK_seq_ret, RK_seq_exit, RK_blk, RK_blk_ret, RK_blk_exit, RK_loop, RK_loop_ret, RK_loop_exit, RK_done])
    | (refine V_drawE rfl (by kernel_rfl) (by kernel_rfl) (by simp [hn]) fun C k hC hk => ?_; simp [zcells, chunks])
    | (refine V_sblock ?_; simp [zcells, chunks])
    | (refine V_ret ?_; simp only [RK_seq, RK_seq_ret, RK_seq_exit, RK_blk, RK_blk_ret, RK_blk_exit, RK_loop, RK_loop_ret, RK_loop_exit, RK_done])
    | (refine V_skip ?_; simp only [RK_seq, RK_seq_ret, RK_seq_exit, RK_blk, RK_blk_ret, RK_blk_exit, RK_loop, RK_loop_ret, RK_loop_exit, RK_done])
    | (refine ⟨fun hc => ?_, fun hc => ?_⟩ <;> (try (exfalso; omega)))
    | (refine CallP.fun_ (a1) (by first | rfl | fail) (by first | assumption | (simp; done) | fail) (by first | (simp [zcells, chunks]; done) | (simp [zcells, chunks]; rfl) | fail) (by first | (simp; done) | fail) (fun d hd => ?_); subst hd; (try simp [zcells, chunks]))
    | (refine CallP.fun_ (a2) (by first | rfl | fail) (by first | assumption | (simp; done) | fail) (by first | (simp [zcells, chunks]; done) | (simp [zcells, chunks]; rfl) | fail) (by first | (simp; done) | fail) (fun d hd => ?_); subst hd; (try simp [zcells, chunks]))
    | (refine CallP.fun_ (a3) (by first | rfl | fail) (by first | assumption | (simp; done) | fail) (by first | (simp [zcells, chunks]; done) | (simp [zcells, chunks]; rfl) | fail) (by first | (simp; done) | fail) (fun d hd => ?_); subst hd; (try simp [zcells, chunks]))
    | (refine CallP.fun_ (a4) (by first | rfl | fail) (by first | assumption | (simp; done) | fail) (by first | (simp [zcells, chunks]; done) | (simp [zcells, chunks]; rfl) | fail) (by first | (simp; done) | fail) (fun d hd => ?_); subst hd; (try simp [zcells, chunks]))
    | (refine CallV.fun_ (a5) (by first | rfl | fail) (by first | assumption | (simp; done) | fail) (by first | (simp [zcells, chunks]; done) | (simp [zcells, chunks]; rfl) | fail) (by first | (simp; done) | fail) ?_ <;> (try simp [zcells, chunks]))
    | (refine CallV.fun_ (a6) (by first | rfl | fail) (by first | assumption | (simp; done) | fail) (by first | (simp [zcells, chunks]; done) | (simp [zcells, chunks]; rfl) | fail) (by first | (simp; done) | fail) ?_ <;> (try simp [zcells, chunks]))
    | (refine CallV.fun_ (a7) (by first | rfl | fail) (by first | assumption | (simp; done) | fail) (by first | (simp [zcells, chunks]; done) | (simp [zcells, chunks]; rfl) | fail) (by first | (simp; done) | fail) ?_ <;> (try simp [zcells, chunks]))
    | (refine CallV.fun_ (a8) (by first | rfl | fail) (by first | assumption | (simp; done) | fail) (by first | (simp [zcells, chunks]; done) | (simp [zcells, chunks]; rfl) | fail) (by first | (simp; done) | fail) ?_ <;> (try simp [zcells, chunks]))
    | (refine CallV.fun_ (a9) (by first | rfl | fail) (by first | assumption | (simp; done) | fail) (by first | (simp [zcells, chunks]; done) | (simp [zcells, chunks]; rfl) | fail) (by first | (simp; done) | fail) ?_ <;> (try simp [zcells, chunks]))
    | (refine CallV.fun_ (a10) (by first | rfl | fail) (by first | assumption | (simp; done) | fail) (by first | (simp [zcells, chunks]; done) | (simp [zcells, chunks]; rfl) | fail) (by first | (simp; done) | fail) ?_ <;> (try simp [zcells, chunks]))
    | fail)
  all_goals
    (refine EndW.frzN 1 ?_; simp [frzN, frz1, frz_env, frz_obs, St.frz, St.frzS, frzS, fv, fzVec, fzMap, fzBox, frzObS, frz_entD, frz_rowsD, del, frz, frzOb])
    refine EndW.norm (EndW.here ?_)
    (refine EndOK.val (.inr rfl) ?_; simp [resD, oneOrTup, pureD, Try.results18, frz_obs, frz_env, norm_obs, norm_env, frz, frzOb, frzS, fv, fzVec, fzMap, fzBox, frzObS, frz_entD, frz_rowsD, normD, normU, norm1, normOb])
  all_goals (simp_all; done)
end Go.Proofs.Ytehlmagdlkcifaa
