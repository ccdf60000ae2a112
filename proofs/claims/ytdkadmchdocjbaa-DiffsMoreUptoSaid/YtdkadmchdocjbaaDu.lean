/- Layer 13: the reference's Check, and what is highest: the walks. -/
import Derived.Test.YtdkadmchdocjbaaDh
set_option linter.all false
set_option maxRecDepth 100000
set_option maxHeartbeats 8000000
set_option linter.all false
namespace Go.Proofs.Ytdkadmchdocjbaa
open Go Go.VL
attribute [local simp] hcons hstep evPure opd uOf putOK St.put St.at getK binD binI binS binB nilD aggD eqUs cmpK lookD lookR rangeD Go.VL.nextD entryD keyD valU keyU lookK mkV entD_nil lookK_entD updK_entD1 updK_entD2 updK_entD3 allUE allUE_entD makeMapD mapUpdD mapEff updK valM Key.kk shiftI arith unD convD pickD loadD cellsAt fieldAddrD fieldD indexAddrD indexD sliceD cutD lenD minmaxD nilCheckD buildD fillD cellsD isOne ones setAll mkAgg allU allocD boxD storeD St.add buildSliceD appendD rowsOf makeD setOb getK_setOb getK_del getK_cons stripL strip guardTmp entry chunks zcells valD argsV argsW argW argU1 argU0 argsU0 argsU1 calleeOf scalarD scalarU delAll effD St.effS RK_seq RK_seq_ret RK_seq_exit RK_blk RK_blk_ret RK_blk_exit RK_loop RK_loop_ret RK_loop_exit RK_done vs_seq vs_block vs_skip vs_label vs_exit vs_ret vs_cond vs_region vs_loop vs_draw vs_range vs_scope applyW mkD rdIds lentIds callOf calleeOf freeOp D.ids Op.operands Call.operands isEffOp makeIfD typeAssertD conc concs conc1 uOfV panicD IntKind.bits allU2 allU2_append List.take_of_length_le List.range_succ
attribute [local irreducible] V G H HD HD2 RunK Eff CallP CallV EndOK Fun Ret FinOK LoopI LoopW EndW
theorem few_fun (l : List Con) (m : Int) : Fun Try.prog 8 [.u (consU l), .u (.int .i64 m)] (· = .u (.bool (decide ((l.length : Int) ≤ m)))) := by
  simp only [consU]
  by_cases h : (l.length : Int) ≤ m
  all_goals
    (refine Fun.of_body Try.func8 rfl (by simp) fun Γ hn => ?_); simp only [entry, List.zipIdx_cons, List.zipIdx_nil, List.map_cons, List.map_nil, Nat.zero_add, Try.ntmps8]
    repeat' (first
    | (refine H_cons ?_; simp [h])
    | (refine H_nil ?_; simp [h])
    | (refine V_sseq ?_; simp [h])
    | (refine V_ret ?_; simp only [RK_seq, RK_seq_ret, RK_seq_exit, RK_blk, RK_blk_ret, RK_blk_exit, RK_loop, RK_loop_ret, RK_loop_exit, RK_done])
    | fail)
    (refine EndOK.val (.inr rfl) ?_; simp [resD, oneOrTup, pureD, Try.results8])
    try simp [h]
theorem checkB_short {l : List Con} {n : Int} {vs : List Int} (h : ¬ (vs.length : Int) = n) : checkB l n vs = false := by simp [checkB, h]
theorem rcheck_fun (l : List Con) (n : Int) (vs : List Int) : Fun Try.prog 17 [.u (consU l), .u (.int .i64 n), .u (ints vs)] (· = .u (.bool (checkB l n vs))) := by
  have h0 := rright_fun l n
  by_cases hr : rightL l n = true
  case neg =>
    have hr2 : rightL l n = false := by simpa using hr
    have hz : checkB l n vs = false := by simp [checkB, hr2]
    rw [hr2] at h0
    rw [hz]
    (refine Fun.of_body Try.func17 rfl (by simp) fun Γ hn => ?_); simp only [entry, List.zipIdx_cons, List.zipIdx_nil, List.map_cons, List.map_nil, Nat.zero_add, Try.ntmps17]
    simp only [consU, ints] at h0 ⊢
    repeat' (first
    | (refine H_cons ?_; simp)
    | (refine H_nil ?_; simp)
    | (refine V_sseq ?_; simp)
    | (refine V_scond ?_; simp)
    | (refine V_ret ?_; simp only [RK_seq, RK_seq_ret, RK_seq_exit, RK_blk, RK_blk_ret, RK_blk_exit, RK_loop, RK_loop_ret, RK_loop_exit, RK_done])
    | (refine CallP.fun_ (h0) (by first | rfl | fail) (by first | assumption | (simp; done) | fail) (by first | (simp; done) | (simp; rfl) | fail) (by first | (simp; done) | fail) (fun d hd => ?_); subst hd; (try simp))
    | fail)
    (refine EndOK.val (.inr rfl) ?_; simp [resD, oneOrTup, pureD, Try.results17])
  rw [hr] at h0
  obtain ⟨e1, e2, e3, e4⟩ := rightL_out hr
  generalize hN : n.toNat = m at e1 e2 e4
  subst e1
  by_cases hl : vs.length = m
  case neg =>
    have hl2 : ¬ (vs.length : Int) = (m : Int) := by omega
    rw [checkB_short hl2]
    (refine Fun.of_body Try.func17 rfl (by simp) fun Γ hn => ?_); simp only [entry, List.zipIdx_cons, List.zipIdx_nil, List.map_cons, List.map_nil, Nat.zero_add, Try.ntmps17]
    simp only [consU, ints] at h0 ⊢
    repeat' (first
    | (refine H_cons ?_; simp [hl])
    | (refine H_nil ?_; simp [hl])
    | (refine V_sseq ?_; simp [hl])
    | (refine V_scond ?_; simp [hl])
    | (refine V_ret ?_; simp only [RK_seq, RK_seq_ret, RK_seq_exit, RK_blk, RK_blk_ret, RK_blk_exit, RK_loop, RK_loop_ret, RK_loop_exit, RK_done])
    | (refine ⟨?_, by omega⟩)
    | (intro hc <;> (try (exfalso; omega)))
    | (refine CallP.fun_ (h0) (by first | rfl | fail) (by first | assumption | (simp; done) | fail) (by first | (simp [hl]; done) | (simp [hl]; rfl) | fail) (by first | (simp; done) | fail) (fun d hd => ?_); subst hd; (try simp [hl]))
    | fail)
    (refine EndOK.val (.inr rfl) ?_; simp [resD, oneOrTup, pureD, Try.results17])
  subst hl
  have hck : checkB l vs.length vs = (vs.all small60 && l.all (metB vs)) := by simp [checkB, hr]
  rw [hck]
  (refine Fun.of_body Try.func17 rfl (by simp) fun Γ hn => ?_); simp only [entry, List.zipIdx_cons, List.zipIdx_nil, List.map_cons, List.map_nil, Nat.zero_add, Try.ntmps17]
  simp only [consU, ints] at h0 ⊢
  repeat' (first
    | (refine H_cons ?_; simp)
    | (refine H_nil ?_; simp)
    | (refine V_sseq ?_; simp)
    | (refine V_scond ?_; simp)
    | (refine V_sblock ?_; simp)
    | (refine V_skip ?_; simp only [RK_seq, RK_seq_ret, RK_seq_exit, RK_blk, RK_blk_ret, RK_blk_exit, RK_loop, RK_loop_ret, RK_loop_exit, RK_done])
    | (refine CallP.fun_ (h0) (by first | rfl | fail) (by first | assumption | (simp; done) | fail) (by first | (simp; done) | (simp; rfl) | fail) (by first | (simp; done) | fail) (fun d hd => ?_); subst hd; (try simp))
    | fail)
  refine V_loopF (α := { i : Nat // i ≤ vs.length ∧ ∀ y ∈ vs.take i, small60 y = true }) [0, 1, 2] (fun i => [(7, .u (.int .i64 i.1))]) (fun i => vs.length - i.1) ⟨0, by omega, by simp⟩ ?_ ?_
  · exact (Wk.cut rfl (by simp [hn, St.lp]) (by simp [wkO, St.lp, getK_cons, getK, Ob.under, D.under, under_rowsD, under_entD]) (by simp [wkU, St.lp, keepE, getK_cons, getK, D.under]) (by simp [wkE, St.lp, keepE, getK_cons, getK] <;> (try (intros; simp_all; done)) <;> (try (intros; omega)) <;> (try grind)))
  rintro ⟨i, hi, hb⟩
  simp [St.lp, St.only, keepE, getK_cons, getK]
  rcases hx : vs[i]? with _ | x
  case some =>
    have hlt : i < vs.length := (List.getElem?_eq_some_iff.1 hx).1
    by_cases hs : small60 x = true
    · have hs2 := hs
      simp only [small60, Bool.and_eq_true, decide_eq_true_eq] at hs2
      obtain ⟨s1, s2⟩ := hs2
      repeat' (first
    | (refine H_cons ?_; simp [hx, s1, s2])
    | (refine H_nil ?_; simp [hx, s1, s2])
    | (refine ⟨by omega, ?_⟩)
    | (refine V_sseq ?_; simp [hx, s1, s2])
    | (refine V_scond ?_; simp [hx, s1, s2])
    | (refine V_sregion ?_; simp [hx, s1, s2])
    | (refine V_skip ?_; simp only [RK_seq, RK_seq_ret, RK_seq_exit, RK_blk, RK_blk_ret, RK_blk_exit, RK_loop, RK_loop_ret, RK_loop_exit, RK_done])
    | (refine ⟨?_, by omega⟩)
    | (intro hc <;> (try (exfalso; omega)))
    | fail)
      refine LoopW.next ⟨i + 1, by omega, all_snoc hx hb hs⟩ (by simp; omega) ?_
      exact (Wk.cut rfl (by simp [hn, St.lp]) (by simp [wkO, St.lp, getK_cons, getK, Ob.under, D.under, under_rowsD, under_entD]) (by simp [wkU, St.lp, keepE, getK_cons, getK, D.under]) (by simp [wkE, St.lp, keepE, getK_cons, getK] <;> (try (intros; simp_all; done)) <;> (try (intros; omega)) <;> (try grind)))
    · have hz : vs.all small60 = false := by
        cases hq : vs.all small60 with
        | false => rfl
        | true => exact absurd (List.all_eq_true.1 hq x (List.mem_of_getElem? hx)) hs
      rw [hz]
      simp only [small60, Bool.and_eq_true, decide_eq_true_eq] at hs
      repeat' (first
    | (refine H_cons ?_; simp [hx])
    | (refine H_nil ?_; simp [hx])
    | (refine V_sseq ?_; simp [hx])
    | (refine V_scond ?_; simp [hx])
    | (refine V_ret ?_; simp only [RK_seq, RK_seq_ret, RK_seq_exit, RK_blk, RK_blk_ret, RK_blk_exit, RK_loop, RK_loop_ret, RK_loop_exit, RK_done])
    | (refine V_skip ?_; simp only [RK_seq, RK_seq_ret, RK_seq_exit, RK_blk, RK_blk_ret, RK_blk_exit, RK_loop, RK_loop_ret, RK_loop_exit, RK_done])
    | (refine ⟨?_, by omega⟩)
    | (refine ⟨fun hc => ?_, fun hc => ?_⟩ <;> (try (exfalso; omega)))
    | (intro hc <;> (try (exfalso; omega)))
    | fail)
      all_goals first
        | ((refine EndOK.val (.inr rfl) ?_; simp [resD, oneOrTup, pureD, Try.results17]); done)
        | (exfalso; omega)
  have hge : vs.length ≤ i := by simpa using hx
  obtain rfl : i = vs.length := by omega
  rw [List.take_length] at hb
  have hall : vs.all small60 = true := List.all_eq_true.2 hb
  rw [hall]
  repeat' (first
    | (refine H_cons ?_; simp [hx])
    | (refine H_nil ?_; simp [hx])
    | (refine V_sseq ?_; simp [hx])
    | (refine V_scond ?_; simp [hx])
    | (refine V_sblock ?_; simp [hx])
    | (refine V_exit ?_; simp [RK_seq, RK_seq_ret, RK_seq_exit, RK_blk, RK_blk_ret, RK_blk_exit, RK_loop, RK_loop_ret, RK_loop_exit, RK_done])
    | fail)
  refine V_loopF (α := { i : Nat // i ≤ l.length ∧ ∀ y ∈ l.take i, metB vs y = true }) [0, 2] (fun i => [(8, .u (.int .i64 i.1))]) (fun i => l.length - i.1) ⟨0, by omega, by simp⟩ ?_ ?_
  · exact (Wk.cut rfl (by simp [hn, St.lp]) (by simp [wkO, St.lp, getK_cons, getK, Ob.under, D.under, under_rowsD, under_entD]) (by simp [wkU, St.lp, keepE, getK_cons, getK, D.under]) (by simp [wkE, St.lp, keepE, getK_cons, getK] <;> (try (intros; simp_all; done)) <;> (try (intros; omega)) <;> (try grind)))
  rintro ⟨j, hj, hm⟩
  simp [St.lp, St.only, keepE, getK_cons, getK]
  rcases hy : l[j]? with _ | c
  · have hge2 : l.length ≤ j := by simpa using hy
    rw [List.take_of_length_le hge2] at hm
    have hma : l.all (metB vs) = true := List.all_eq_true.2 hm
    rw [hma]
    repeat' (first
    | (refine H_cons ?_; simp [hy])
    | (refine H_nil ?_; simp [hy])
    | (refine ⟨by omega, ?_⟩)
    | (refine V_sseq ?_; simp [hy])
    | (refine V_scond ?_; simp [hy])
    | (refine V_ret ?_; simp only [RK_seq, RK_seq_ret, RK_seq_exit, RK_blk, RK_blk_ret, RK_blk_exit, RK_loop, RK_loop_ret, RK_loop_exit, RK_done])
    | (refine V_exit ?_; simp [RK_seq, RK_seq_ret, RK_seq_exit, RK_blk, RK_blk_ret, RK_blk_exit, RK_loop, RK_loop_ret, RK_loop_exit, RK_done])
    | (intro hc <;> (try (exfalso; omega)))
    | fail)
    (refine EndOK.val (.inr rfl) ?_; simp [resD, oneOrTup, pureD, Try.results17])
  · have hlt : j < l.length := (List.getElem?_eq_some_iff.1 hy).1
    have hcm := List.mem_of_getElem? hy
    obtain ⟨A, B, N⟩ := c
    have hc := e4 _ hcm
    simp only [maxN] at hc
    obtain ⟨a, rfl⟩ := Int.eq_ofNat_of_zero_le hc.1
    obtain ⟨b, rfl⟩ := Int.eq_ofNat_of_zero_le hc.2.2.1
    have ha := valL_at (vs := vs) (x := a) (by omega)
    have hb' := valL_at (vs := vs) (x := b) (by omega)
    have ha2 := valL_small hall a
    have hb2 := valL_small hall b
    have hal : a < vs.length := by omega
    have hbl : b < vs.length := by omega
    by_cases hmt : metB vs ⟨a, b, N⟩ = true
    · have hm2 := hmt
      simp only [metB, Con.a, Con.b, Int.toNat_natCast, decide_eq_true_eq] at hm2
      have hm3 : ¬ valL vs b + N < valL vs a := by omega
      repeat' (first
    | (refine H_cons ?_; simp [hy, ha, hb', hm2, hm3])
    | (refine HD_cons ?_; simp [hy, ha, hb', hm2, hm3])
    | (refine H_nil ?_; simp [hy, ha, hb', hm2, hm3])
    | (refine ⟨by omega, ?_⟩)
    | (refine V_sseq ?_; simp [hy, ha, hb', hm2, hm3])
    | (refine V_scond ?_; simp [hy, ha, hb', hm2, hm3])
    | (refine HD_nil ?_)
    | (refine hk _ ?_; clear hk k; simp only [RK_seq, RK_seq_ret, RK_seq_exit, RK_blk, RK_blk_ret, RK_blk_exit, RK_loop, RK_loop_ret, RK_loop_exit, RK_done])
    | (refine V_drawV rfl (by kernel_rfl) (by kernel_rfl) fun k hk => ?_; simp [hy, ha, hb', hm2, hm3])
    | (refine V_sregion ?_; simp [hy, ha, hb', hm2, hm3])
    | (refine V_skip ?_; simp only [RK_seq, RK_seq_ret, RK_seq_exit, RK_blk, RK_blk_ret, RK_blk_exit, RK_loop, RK_loop_ret, RK_loop_exit, RK_done])
    | (refine ⟨?_, by omega⟩)
    | (intro hc <;> (try (exfalso; omega)))
    | fail)
      refine LoopW.next ⟨j + 1, by omega, all_snoc hy hm hmt⟩ (by simp; omega) ?_
      exact (Wk.cut rfl (by simp [hn, St.lp]) (by simp [wkO, St.lp, getK_cons, getK, Ob.under, D.under, under_rowsD, under_entD]) (by simp [wkU, St.lp, keepE, getK_cons, getK, D.under]) (by simp [wkE, St.lp, keepE, getK_cons, getK] <;> (try (intros; simp_all; done)) <;> (try (intros; omega)) <;> (try grind)))
    · have hz : l.all (metB vs) = false := by
        cases hq : l.all (metB vs) with
        | false => rfl
        | true => exact absurd (List.all_eq_true.1 hq _ hcm) hmt
      rw [hz]
      simp only [metB, Con.a, Con.b, Int.toNat_natCast, decide_eq_true_eq] at hmt
      have hm3 : valL vs b + N < valL vs a := by omega
      repeat' (first
    | (refine H_cons ?_; simp [hy, ha, hb', hm3])
    | (refine HD_cons ?_; simp [hy, ha, hb', hm3])
    | (refine H_nil ?_; simp [hy, ha, hb', hm3])
    | (refine ⟨by omega, ?_⟩)
    | (refine V_sseq ?_; simp [hy, ha, hb', hm3])
    | (refine V_scond ?_; simp [hy, ha, hb', hm3])
    | (refine HD_nil ?_)
    | (refine hk _ ?_; clear hk k; simp only [RK_seq, RK_seq_ret, RK_seq_exit, RK_blk, RK_blk_ret, RK_blk_exit, RK_loop, RK_loop_ret, RK_loop_exit, RK_done])
    | (refine V_drawV rfl (by kernel_rfl) (by kernel_rfl) fun k hk => ?_; simp [hy, ha, hb', hm3])
    | (refine V_ret ?_; simp only [RK_seq, RK_seq_ret, RK_seq_exit, RK_blk, RK_blk_ret, RK_blk_exit, RK_loop, RK_loop_ret, RK_loop_exit, RK_done])
    | (refine V_skip ?_; simp only [RK_seq, RK_seq_ret, RK_seq_exit, RK_blk, RK_blk_ret, RK_blk_exit, RK_loop, RK_loop_ret, RK_loop_exit, RK_done])
    | (refine ⟨?_, by omega⟩)
    | (intro hc <;> (try (exfalso; omega)))
    | fail)
      (refine EndOK.val (.inr rfl) ?_; simp [resD, oneOrTup, pureD, Try.results17])
/-- The greatest number of a list, or 0. -/
def highL : List Int → Nat → Int
  | _, 0 => 0
  | l, i + 1 => if i = 0 ∨ highL l i < l.getD i 0 then l.getD i 0 else highL l i
theorem highL_le (l : List Int) : ∀ (n i : Nat), i < n → l.getD i 0 ≤ highL l n
  | 0, i, h => by omega
  | n + 1, i, h => by
    rw [highL]
    by_cases hi : i = n
    · subst hi
      split <;> omega
    · have := highL_le l n i (by omega)
      split <;> omega
theorem highest_fun (l : List Int) (hll : l.length ≤ 1000000) : Fun Try.prog 21 [.u (ints l)] (· = .u (.int .i64 (highL l l.length))) := by
  simp only [ints]
  (refine Fun.of_body Try.func21 rfl (by simp) fun Γ hn => ?_); simp only [entry, List.zipIdx_cons, List.zipIdx_nil, List.map_cons, List.map_nil, Nat.zero_add, Try.ntmps21]
  repeat' (first
    | (refine H_cons ?_; simp)
    | (refine H_nil ?_; simp)
    | (refine V_sseq ?_; simp)
    | (refine V_sblock ?_; simp)
    | fail)
  refine V_loopF (α := { i : Nat // i ≤ l.length }) [0] (fun i => [(3, .u (.int .i64 (highL l i.1))), (4, .u (.int .i64 i.1))]) (fun i => l.length - i.1) ⟨0, by omega⟩ ?_ ?_
  · exact (Wk.cut rfl (by simp [hn, St.lp]) (by simp [wkO, St.lp, getK_cons, getK, Ob.under, D.under, under_rowsD, under_entD, highL]) (by simp [wkU, St.lp, keepE, getK_cons, getK, D.under, highL]) (by simp [wkE, St.lp, keepE, getK_cons, getK, highL] <;> (try (intros; simp_all; done)) <;> (try (intros; omega)) <;> (try grind)))
  rintro ⟨i, hi⟩
  simp [St.lp, St.only, keepE, getK_cons, getK]
  rcases hx : l[i]? with _ | x
  · have hge : l.length ≤ i := by simpa using hx
    obtain rfl : i = l.length := by omega
    repeat' (first
    | (refine H_cons ?_; simp [hx])
    | (refine H_nil ?_; simp [hx])
    | (refine V_sseq ?_; simp [hx])
    | (refine V_scond ?_; simp [hx])
    | (refine V_ret ?_; simp only [RK_seq, RK_seq_ret, RK_seq_exit, RK_blk, RK_blk_ret, RK_blk_exit, RK_loop, RK_loop_ret, RK_loop_exit, RK_done])
    | (refine V_exit ?_; simp [RK_seq, RK_seq_ret, RK_seq_exit, RK_blk, RK_blk_ret, RK_blk_exit, RK_loop, RK_loop_ret, RK_loop_exit, RK_done])
    | fail)
    (refine EndOK.val (.inr rfl) ?_; simp [resD, oneOrTup, pureD, Try.results21])
  · have hlt : i < l.length := (List.getElem?_eq_some_iff.1 hx).1
    have hgx : l.getD i 0 = x := by rw [List.getD_eq_getElem?_getD, hx]; rfl
    by_cases hc : i = 0 ∨ highL l i < x
    · have hnx : highL l (i + 1) = x := by rw [highL, hgx, if_pos hc]
      by_cases hi0 : i = 0
      · subst hi0
        have hne : ¬ l = [] := fun e => by subst e; cases hx
        repeat' (first
    | (refine H_cons ?_; simp [hx, hne])
    | (refine H_nil ?_; simp [hx, hne])
    | (refine V_sseq ?_; simp [hx, hne])
    | (refine V_scond ?_; simp [hx, hne])
    | (refine V_sregion ?_; simp [hx, hne])
    | (refine V_skip ?_; simp only [RK_seq, RK_seq_ret, RK_seq_exit, RK_blk, RK_blk_ret, RK_blk_exit, RK_loop, RK_loop_ret, RK_loop_exit, RK_done])
    | (intro hc <;> (try (exfalso; omega)))
    | fail)
        refine LoopW.next ⟨0 + 1, by omega⟩ (by simp; omega) ?_
        exact (Wk.cut rfl (by simp [hn, St.lp]) (by simp [wkO, St.lp, getK_cons, getK, Ob.under, D.under, under_rowsD, under_entD, hnx]) (by simp [wkU, St.lp, keepE, getK_cons, getK, D.under, hnx]) (by simp [wkE, St.lp, keepE, getK_cons, getK, hnx] <;> (try (intros; simp_all; done)) <;> (try (intros; omega)) <;> (try grind)))
      · have hlx : highL l i < x := by omega
        repeat' (first
    | (refine H_cons ?_; simp [hx, hi0, hlx])
    | (refine H_nil ?_; simp [hx, hi0, hlx])
    | (refine ⟨by omega, ?_⟩)
    | (refine V_sseq ?_; simp [hx, hi0, hlx])
    | (refine V_scond ?_; simp [hx, hi0, hlx])
    | (refine V_sregion ?_; simp [hx, hi0, hlx])
    | (refine V_skip ?_; simp only [RK_seq, RK_seq_ret, RK_seq_exit, RK_blk, RK_blk_ret, RK_blk_exit, RK_loop, RK_loop_ret, RK_loop_exit, RK_done])
    | (refine ⟨?_, by omega⟩)
    | (intro hc <;> (try (exfalso; omega)))
    | fail)
        refine LoopW.next ⟨i + 1, by omega⟩ (by simp; omega) ?_
        exact (Wk.cut rfl (by simp [hn, St.lp]) (by simp [wkO, St.lp, getK_cons, getK, Ob.under, D.under, under_rowsD, under_entD, hnx]) (by simp [wkU, St.lp, keepE, getK_cons, getK, D.under, hnx]) (by simp [wkE, St.lp, keepE, getK_cons, getK, hnx] <;> (try (intros; simp_all; done)) <;> (try (intros; omega)) <;> (try grind)))
    · have hnx : highL l (i + 1) = highL l i := by rw [highL, hgx, if_neg hc]
      have hi0 : ¬ i = 0 := by omega
      have hlx : ¬ highL l i < x := by omega
      repeat' (first
    | (refine H_cons ?_; simp [hx, hi0, hlx])
    | (refine H_nil ?_; simp [hx, hi0, hlx])
    | (refine ⟨by omega, ?_⟩)
    | (refine V_sseq ?_; simp [hx, hi0, hlx])
    | (refine V_scond ?_; simp [hx, hi0, hlx])
    | (refine V_sregion ?_; simp [hx, hi0, hlx])
    | (refine V_skip ?_; simp only [RK_seq, RK_seq_ret, RK_seq_exit, RK_blk, RK_blk_ret, RK_blk_exit, RK_loop, RK_loop_ret, RK_loop_exit, RK_done])
    | (refine ⟨?_, by omega⟩)
    | (intro hc <;> (try (exfalso; omega)))
    | fail)
      refine LoopW.next ⟨i + 1, by omega⟩ (by simp; omega) ?_
      exact (Wk.cut rfl (by simp [hn, St.lp]) (by simp [wkO, St.lp, getK_cons, getK, Ob.under, D.under, under_rowsD, under_entD, hnx]) (by simp [wkU, St.lp, keepE, getK_cons, getK, D.under, hnx]) (by simp [wkE, St.lp, keepE, getK_cons, getK, hnx] <;> (try (intros; simp_all; done)) <;> (try (intros; omega)) <;> (try grind)))
end Go.Proofs.Ytdkadmchdocjbaa
