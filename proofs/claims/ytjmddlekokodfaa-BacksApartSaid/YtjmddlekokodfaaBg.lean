/- Layer 26: the reference: the levels of a member: the walk. -/
import Derived.Test.YtjmddlekokodfaaBd
set_option linter.all false
set_option maxRecDepth 100000
set_option maxHeartbeats 8000000
set_option linter.all false
namespace Go.Proofs.Ytjmddlekokodfaa
open Go Go.VL
theorem mem_nats (i : Nat) (l : List Nat) : ((i : Int) ∈ nats l) ↔ i ∈ l := by
  constructor
  · intro h
    obtain ⟨j, hj, e⟩ := List.mem_map.1 h
    have : j = i := Int.ofNat.inj e
    exact this ▸ hj
  · intro h
    exact List.mem_map.2 ⟨i, h, rfl⟩
theorem reach_snoc {B : List (List Int)} {last : List Nat} {k v i : Nat} (hx : last[k]? = some v) : reach B (last.take (k + 1)) i = (reach B (last.take k) i || decide ((i : Int) ∈ B.getD v [])) := by
  rw [take_snoc hx]; simp [reach]
def nextTo (i : Nat) (B : List (List Int)) (seen last : List Nat) : List Nat := (List.range i).filter fun i => !decide (i ∈ seen) && reach B last i
theorem nextTo_all (n B seen last) : nextTo n B seen last = nextR n B seen last := rfl
theorem nextTo_succ (i B seen last) : nextTo (i + 1) B seen last = nextTo i B seen last ++ if (!decide (i ∈ seen) && reach B last i) = true then [i] else [] := by
  simp only [nextTo, List.range_succ, List.filter_append, List.filter_cons, List.filter_nil]
theorem nextTo_len (i B seen last) : (nextTo i B seen last).length ≤ i := by
  have := List.length_filter_le (fun i => !decide (i ∈ seen) && reach B last i) (List.range i)
  simpa [nextTo] using this
def listsR (ls : List (List Nat)) : List (List D) := ls.map fun l => [.u (ints (nats l))]
theorem listsR_len (ls) : (listsR ls).length = ls.length := by simp [listsR]
theorem listsR_all (ls) : allU2 (listsR ls) = some (ls.map fun l => [ints (nats l)]) := by
  have : listsR ls = rowsD (ls.map fun l => [ints (nats l)]) := by simp [listsR, rowsD]
  rw [this]; simp
theorem pure_listsR (ls) : pureRows (listsR ls) = True := by
  have : listsR ls = rowsD (ls.map fun l => [ints (nats l)]) := by simp [listsR, rowsD]
  rw [this]; simp
theorem under_listsR (n : Nat) (ls) : (∀ x ∈ listsR ls, ∀ y ∈ x, D.under n y = true) ↔ True := by
  refine ⟨fun _ => trivial, fun _ x hx y hy => ?_⟩
  obtain ⟨b, _, rfl⟩ := List.mem_map.1 hx
  simp at hy
  subst hy
  simp [D.under]
attribute [local simp] hcons hstep evPure opd uOf putOK St.put St.at getK binD binI binS binB nilD aggD eqUs cmpK lookD lookR rangeD nextD entryD keyD valU keyU lookK mkV entD_nil lookK_entD updK_entD1 updK_entD2 updK_entD3 allUE allUE_entD makeMapD mapUpdD mapEff updK valM Key.kk shiftI arith unD convD pickD loadD cellsAt fieldAddrD fieldD indexAddrD indexD sliceD cutD lenD minmaxD nilCheckD buildD fillD cellsD isOne ones setAll mkAgg allU allocD boxD storeD St.add buildSliceD appendD rowsOf makeD setOb getK_setOb getK_del getK_cons stripL strip guardTmp entry chunks zcells valD argsV argsW argW argU1 argU0 argsU0 argsU1 calleeOf scalarD scalarU delAll effD St.effS RK_seq RK_seq_ret RK_seq_exit RK_blk RK_blk_ret RK_blk_exit RK_loop RK_loop_ret RK_loop_exit RK_done vs_seq vs_block vs_skip vs_label vs_exit vs_ret vs_cond vs_region vs_loop vs_draw vs_range vs_scope applyW mkD rdIds lentIds callOf calleeOf freeOp D.ids Op.operands Call.operands isEffOp IntKind.bits allU2 allU2_append List.take_of_length_le List.range_succ
attribute [local irreducible] V G H HD HD2 RunK Eff CallP CallV EndOK Fun Ret FinOK LoopI LoopW EndW
theorem levels_fun (n d : Nat) (B : List (List Int)) (hn60 : n ≤ 60) (hB : OkB n B) (hd : d < n) : Fun Try.prog 18 [.u (lists B), .u (.int .i64 d)] (· = .u (lists ((levelsOf n B d).map nats))) := by
  obtain ⟨hBl, hBg⟩ := hB
  (refine Fun.of_bodyW Try.func18 rfl (by simp) fun Γ hn => ?_); simp only [entry, List.zipIdx_cons, List.zipIdx_nil, List.map_cons, List.map_nil, Nat.zero_add, Try.ntmps18]
  repeat' (first
    | (refine H_cons ?_; simp)
    | (refine H_nil ?_; simp)
    | (refine V_sseq ?_; simp)
    | (refine V_sblock ?_; simp)
    | fail)
  refine V_wk _ (Wk.own 7 22 1 (by decide) rfl) ?_
  simp [St.own]
  refine V_wk _ (Wk.frz 1 [] (us := [[.int .i64 d]]) rfl (by simp)) ?_
  simp [St.frz, St.frzS, frzS, fv, fzVec, frzObS, del]
  have h0 : levelsOf n B d = [] ++ lvls n B n [d] [d] := rfl
  refine V_loopO (α := { s : List Nat × List Nat × Nat × List (List Nat) // s.1.Nodup ∧ (∀ i ∈ s.1, i < n) ∧ (∀ i ∈ s.2.1, i < n) ∧ s.2.1.length ≤ n ∧ n + 1 ≤ s.1.length + s.2.2.1 ∧ levelsOf n B d = s.2.2.2 ++ lvls n B s.2.2.1 s.1 s.2.1 ∧ s.2.2.2.length ≤ s.1.length }) [0] (fun s => [(5, .vec 0 s.1.1.length), (6, .u (ints (nats s.1.2.1))), (7, .vec 2 s.1.2.2.2.length)])
    (fun s => [(0, .vec 3 1 (intR (nats s.1.1))), (2, .vec 22 1 (listsR s.1.2.2.2))]) 3 (fun s => s.1.2.2.1) ⟨([d], [d], n, []), by simp, by simp; omega, by simp; omega, by simp; omega, by simp; omega, h0, by simp⟩ ?_ ?_
  · exact (Wk.cut rfl (by simp [hn, St.lp]) (by simp [wkO, St.lp, getK_cons, getK, Ob.under, D.under, under_rowsD, under_entD, intR, listsR]) (by simp [wkU, St.lp, keepE, getK_cons, getK, D.under, intR, listsR]) (by simp [wkE, St.lp, keepE, getK_cons, getK, intR, listsR] <;> (try (intros; simp_all; done)) <;> (try (intros; omega)) <;> (try grind)))
  rintro ⟨⟨seen, last, f, acc⟩, h1, h2, h3, h3b, h4, h5, h6⟩
  simp only at h1 h2 h3 h3b h4 h5 h6
  simp [St.lp, St.only, keepE, getK_cons, getK]
  have hsl := seen_len h1 h2
  repeat' (first
    | (refine H_cons ?_; simp)
    | (refine H_nil ?_; simp)
    | (refine V_sseq ?_; simp)
    | (refine V_sblock ?_; simp)
    | fail)
  refine V_wk _ (Wk.own 8 3 1 (by decide) rfl) ?_
  simp [St.own]
  refine V_loopO (α := { i : Nat // i ≤ n }) [0, 5, 6, 7] (fun i => [(8, .vec 3 (nextTo i.1 B seen last).length), (9, .u (.int .i64 i.1))])
    (fun i => [(0, .vec 3 1 (intR (nats seen))), (2, .vec 22 1 (listsR acc)), (3, .vec 3 1 (intR (nats (nextTo i.1 B seen last))))]) 4 (fun i => n - i.1) ⟨0, by omega⟩ ?_ ?_
  · exact (Wk.cut rfl (by simp [hn, St.lp]) (by simp [wkO, St.lp, getK_cons, getK, Ob.under, D.under, under_rowsD, under_entD, pure_intR, under_intR, pure_listsR, under_listsR, nextTo, intR]) (by simp [wkU, St.lp, keepE, getK_cons, getK, D.under, pure_intR, under_intR, pure_listsR, under_listsR, nextTo, intR]) (by simp [wkE, St.lp, keepE, getK_cons, getK, pure_intR, under_intR, pure_listsR, under_listsR, nextTo, intR] <;> (try (intros; simp_all; done)) <;> (try (intros; omega)) <;> (try grind)))
  rintro ⟨i, hi⟩
  simp [St.lp, St.only, keepE, getK_cons, getK]
  have hnl := nextTo_len i B seen last
  by_cases hlt : i < n
  case neg =>
    obtain rfl : i = n := by omega
    rw [nextTo_all] at *
    obtain ⟨N, hN⟩ : ∃ N, N = nextR i B seen last := ⟨_, rfl⟩
    obtain ⟨f', rfl⟩ : ∃ f', f = f' + 1 := ⟨f - 1, by omega⟩
    rw [lvls, ← hN] at h5
    have hs1 := seen_next (n := i) (B := B) (last := last) h1 h2
    rw [← hN] at hs1 hnl ⊢
    have hNm : ∀ j ∈ N, j < i := fun j hj => (mem_nextR.1 (hN ▸ hj)).1
    by_cases hNe : N = []
    · rw [if_pos hNe, List.append_nil] at h5
      subst hNe
      repeat' (first
    | (refine H_cons ?_; simp [hBl])
    | (refine H_nil ?_; simp [hBl])
    | (refine V_sseq ?_; simp [hBl])
    | (refine V_scond ?_; simp [hBl])
    | (refine V_ret ?_; simp only [RK_seq, RK_seq_ret, RK_seq_exit, RK_blk, RK_blk_ret, RK_blk_exit, RK_loop, RK_loop_ret, RK_loop_exit, RK_done])
    | (refine V_exit ?_; simp [RK_seq, RK_seq_ret, RK_seq_exit, RK_blk, RK_blk_ret, RK_blk_exit, RK_loop, RK_loop_ret, RK_loop_exit, RK_done])
    | fail)
      refine EndW.wk _ (Wk.frz 2 [] (us := acc.map fun l => [ints (nats l)]) rfl (listsR_all acc)) ?_
      simp [St.frz, St.frzS, frzS, fv, fzVec, frzObS, del]
      refine EndW.norm (EndW.here ?_)
      (refine EndOK.val (.inr rfl) ?_; simp [resD, oneOrTup, pureD, Try.results18, frz_obs, frz_env, norm_obs, norm_env, frz, frzOb, frzS, fv, fzVec, fzMap, fzBox, frzObS, frz_entD, frz_rowsD, normD, normU, norm1, normOb, h5])
    · rw [if_neg hNe] at h5
      have hNl : ¬ N.length = 0 := fun h => hNe (List.eq_nil_of_length_eq_zero h)
      refine V_wk _ (Wk.frz 3 [] (us := (nats N).map fun z => [U.int .i64 z]) rfl (intR_all _)) ?_
      simp [St.frz, St.frzS, frzS, fv, fzVec, frzObS, del]
      have hap : listsR acc ++ [[D.u (.sl (N.map fun (n : Nat) => [U.int .i64 (n : Int)]))]] = listsR (acc ++ [N]) := by simp [listsR, Function.comp_def]
      have hap2 : intR (nats seen) ++ rowsD (N.map fun (n : Nat) => [U.int .i64 (n : Int)]) = intR (nats (seen ++ N)) := by simp [intR, rowsD, Function.comp_def]
      have hlr : lenR 1 (listsR acc) := fun r hr => by
        obtain ⟨l, _, rfl⟩ := List.mem_map.1 hr
        rfl
      have hlr2 : lenR 1 (intR (nats seen)) := by simp [intR]
      repeat' (first
    | (refine H_cons ?_; simp [hBl, hNl, hNe, intR_len, listsR_len, Function.comp_def, hap, hap2, hlr, hlr2])
    | (refine H_nil ?_; simp [hBl, hNl, hNe, intR_len, listsR_len, Function.comp_def, hap, hap2, hlr, hlr2])
    | (refine ⟨by omega, ?_⟩)
    | (refine V_sseq ?_; simp [hBl, hNl, hNe, intR_len, listsR_len, Function.comp_def, hap, hap2, hlr, hlr2])
    | (refine V_scond ?_; simp [hBl, hNl, hNe, intR_len, listsR_len, Function.comp_def, hap, hap2, hlr, hlr2])
    | (refine V_sregion ?_; simp [hBl, hNl, hNe, intR_len, listsR_len, Function.comp_def, hap, hap2, hlr, hlr2])
    | (refine V_skip ?_; simp only [RK_seq, RK_seq_ret, RK_seq_exit, RK_blk, RK_blk_ret, RK_blk_exit, RK_loop, RK_loop_ret, RK_loop_exit, RK_done])
    | (refine V_exit ?_; simp [RK_seq, RK_seq_ret, RK_seq_exit, RK_blk, RK_blk_ret, RK_blk_exit, RK_loop, RK_loop_ret, RK_loop_exit, RK_done])
    | fail)
      have hNp : 0 < N.length := by omega
      have hl1 : (seen ++ N).length = seen.length + N.length := List.length_append
      have hl2 : (acc ++ [N]).length = acc.length + 1 := by simp
      refine LoopW.next ⟨(seen ++ N, N, f', acc ++ [N]), hs1.1, hs1.2, hNm, hnl, by simp only; omega, by rw [h5]; simp, by simp only; omega⟩ (by simp) ?_
      exact (Wk.ren ((fun i => if i = 0 then 6 else if i = 2 then 5 else i)) rfl (by first | (simp [hn]; done) | (intro i hi; rw [hn] at hi; constructor <;> (try simp) <;> (try (intro _)) <;> omega)) (by simp [wkER, St.lp, keepE, getK_cons, getK, getK_del, getK_setOb, D.under, D.le, D.ren, pure_intR, under_intR, pure_listsR, under_listsR, Function.comp_def] <;> (try (intros; simp_all; done)) <;> (try omega)) (by simp [wkR, St.lp, getK_cons, getK, getK_del, getK_setOb, obR, leU, pureRow, pureRows, Ob.under, D.under, D.le, D.ren, pure_intR, under_intR, pure_listsR, under_listsR, Function.comp_def] <;> (try (intros; simp_all; done)) <;> (try omega)) (by simp [pure_intR, under_intR, pure_listsR, under_listsR, Function.comp_def]))
  have hsf := has_fun (nats seen) (i : Int) (by simp; omega)
  rw [show decide ((i : Int) ∈ nats seen) = decide (i ∈ seen) by simp only [mem_nats]] at hsf
  by_cases hin : i ∈ seen
  · have hns : nextTo (i + 1) B seen last = nextTo i B seen last := by rw [nextTo_succ]; simp [hin]
    simp only [hin, decide_true] at hsf
    repeat' (first
    | (refine H_cons ?_; simp [hBl, hlt, intR_all, intR_len])
    | (refine H_nil ?_; simp [hBl, hlt, intR_all, intR_len])
    | (refine ⟨by omega, ?_⟩)
    | (refine V_sseq ?_; simp [hBl, hlt, intR_all, intR_len])
    | (refine V_scond ?_; simp [hBl, hlt, intR_all, intR_len])
    | (refine V_sregion ?_; simp [hBl, hlt, intR_all, intR_len])
    | (refine V_skip ?_; simp only [RK_seq, RK_seq_ret, RK_seq_exit, RK_blk, RK_blk_ret, RK_blk_exit, RK_loop, RK_loop_ret, RK_loop_exit, RK_done])
    | (refine V_exit ?_; simp [RK_seq, RK_seq_ret, RK_seq_exit, RK_blk, RK_blk_ret, RK_blk_exit, RK_loop, RK_loop_ret, RK_loop_exit, RK_done])
    | (refine CallP.fun_ (hsf) (by first | rfl | fail) (by first | assumption | (simp; done) | fail) (by first | (simp [hBl, hlt, intR_all, intR_len]; done) | (simp [hBl, hlt, intR_all, intR_len]; rfl) | fail) (by first | (simp; done) | fail) (fun d hd => ?_); subst hd; (try simp [hBl, hlt, intR_all, intR_len]))
    | fail)
    refine LoopW.next ⟨i + 1, by omega⟩ (by simp; omega) ?_
    exact (Wk.cut rfl (by simp [hn, St.lp]) (by simp [wkO, St.lp, getK_cons, getK, Ob.under, D.under, under_rowsD, under_entD, pure_intR, under_intR, pure_listsR, under_listsR, hns]) (by simp [wkU, St.lp, keepE, getK_cons, getK, D.under, pure_intR, under_intR, pure_listsR, under_listsR, hns]) (by simp [wkE, St.lp, keepE, getK_cons, getK, pure_intR, under_intR, pure_listsR, under_listsR, hns] <;> (try (intros; simp_all; done)) <;> (try (intros; omega)) <;> (try grind)))
  rw [show decide (i ∈ seen) = false by simp [hin]] at hsf
  repeat' (first
    | (refine H_cons ?_; simp [hBl, hlt, intR_all, intR_len])
    | (refine H_nil ?_; simp [hBl, hlt, intR_all, intR_len])
    | (refine V_sseq ?_; simp [hBl, hlt, intR_all, intR_len])
    | (refine V_scond ?_; simp [hBl, hlt, intR_all, intR_len])
    | (refine V_sblock ?_; simp [hBl, hlt, intR_all, intR_len])
    | (refine V_skip ?_; simp only [RK_seq, RK_seq_ret, RK_seq_exit, RK_blk, RK_blk_ret, RK_blk_exit, RK_loop, RK_loop_ret, RK_loop_exit, RK_done])
    | (refine CallP.fun_ (hsf) (by first | rfl | fail) (by first | assumption | (simp; done) | fail) (by first | (simp [hBl, hlt, intR_all, intR_len]; done) | (simp [hBl, hlt, intR_all, intR_len]; rfl) | fail) (by first | (simp; done) | fail) (fun d hd => ?_); subst hd; (try simp [hBl, hlt, intR_all, intR_len]))
    | fail)
  refine V_loopO (α := { k : Nat // k ≤ last.length }) [0, 5, 6, 7, 8, 9] (fun k => [(10, .u (.bool (reach B (last.take k.1) i))), (11, .u (.int .i64 k.1))])
    (fun _ => [(0, .vec 3 1 (intR (nats seen))), (2, .vec 22 1 (listsR acc)), (3, .vec 3 1 (intR (nats (nextTo i B seen last))))]) 4 (fun k => last.length - k.1) ⟨0, by omega⟩ ?_ ?_
  · exact (Wk.cut rfl (by simp [hn, St.lp]) (by simp [wkO, St.lp, getK_cons, getK, Ob.under, D.under, under_rowsD, under_entD, pure_intR, under_intR, pure_listsR, under_listsR, reach]) (by simp [wkU, St.lp, keepE, getK_cons, getK, D.under, pure_intR, under_intR, pure_listsR, under_listsR, reach]) (by simp [wkE, St.lp, keepE, getK_cons, getK, pure_intR, under_intR, pure_listsR, under_listsR, reach] <;> (try (intros; simp_all; done)) <;> (try (intros; omega)) <;> (try grind)))
  rintro ⟨k, hk⟩
  simp [St.lp, St.only, keepE, getK_cons, getK]
  rcases hx : last[k]? with _ | v
  · have hge : last.length ≤ k := by simpa using hx
    obtain rfl : k = last.length := by omega
    rw [List.take_length]
    by_cases hr : reach B last i = true
    · have hns : nextTo (i + 1) B seen last = nextTo i B seen last ++ [i] := by rw [nextTo_succ]; simp [hin, hr]
      have hap : intR (nats (nextTo i B seen last)) ++ [[D.u (.int .i64 (i : Int))]] = intR (nats (nextTo (i + 1) B seen last)) := by rw [hns]; simp [intR]
      have hlr : lenR 1 (intR (nats (nextTo i B seen last))) := by simp [intR]
      have hnl2 : (nextTo (i + 1) B seen last).length = (nextTo i B seen last).length + 1 := by rw [hns]; simp
      repeat' (first
    | (refine H_cons ?_; simp [hx, hr, intR_len, hap, hlr])
    | (refine H_nil ?_; simp [hx, hr, intR_len, hap, hlr])
    | (refine ⟨by omega, ?_⟩)
    | (refine V_sseq ?_; simp [hx, hr, intR_len, hap, hlr])
    | (refine V_scond ?_; simp [hx, hr, intR_len, hap, hlr])
    | (refine V_sregion ?_; simp [hx, hr, intR_len, hap, hlr])
    | (refine V_exit ?_; simp [RK_seq, RK_seq_ret, RK_seq_exit, RK_blk, RK_blk_ret, RK_blk_exit, RK_loop, RK_loop_ret, RK_loop_exit, RK_done])
    | fail)
      refine LoopW.next ⟨i + 1, by omega⟩ (by simp; omega) ?_
      exact (Wk.ren1 (3) (5) rfl (by simp [hn]) (by simp [hn]) (by simp [pure_intR, under_intR, pure_listsR, under_listsR, hnl2]) (by simp [wkER, rho1, St.lp, keepE, getK_cons, getK, getK_del, getK_setOb, D.under, D.le, D.ren, pure_intR, under_intR, pure_listsR, under_listsR, hnl2] <;> (try (intros; simp_all; done)) <;> (try omega)) (by simp [wkR, wkR_tail1, endsIn_here, endsIn_cons, del_cons, del_fam, rho1, St.lp, getK_cons, getK, getK_del, getK_setOb, obR, leU, pureRow, pureRows, Ob.under, D.under, D.le, D.ren, pure_intR, under_intR, pure_listsR, under_listsR, hnl2] <;> (try (intros; simp_all; done)) <;> (try omega)))
    · have hr2 : reach B last i = false := by simpa using hr
      have hns : nextTo (i + 1) B seen last = nextTo i B seen last := by rw [nextTo_succ]; simp [hr2]
      repeat' (first
    | (refine H_cons ?_; simp [hx, hr2])
    | (refine H_nil ?_; simp [hx, hr2])
    | (refine ⟨by omega, ?_⟩)
    | (refine V_sseq ?_; simp [hx, hr2])
    | (refine V_scond ?_; simp [hx, hr2])
    | (refine V_sregion ?_; simp [hx, hr2])
    | (refine V_skip ?_; simp only [RK_seq, RK_seq_ret, RK_seq_exit, RK_blk, RK_blk_ret, RK_blk_exit, RK_loop, RK_loop_ret, RK_loop_exit, RK_done])
    | (refine V_exit ?_; simp [RK_seq, RK_seq_ret, RK_seq_exit, RK_blk, RK_blk_ret, RK_blk_exit, RK_loop, RK_loop_ret, RK_loop_exit, RK_done])
    | fail)
      refine LoopW.next ⟨i + 1, by omega⟩ (by simp; omega) ?_
      exact (Wk.cut rfl (by simp [hn, St.lp]) (by simp [wkO, St.lp, getK_cons, getK, Ob.under, D.under, under_rowsD, under_entD, pure_intR, under_intR, pure_listsR, under_listsR, hns]) (by simp [wkU, St.lp, keepE, getK_cons, getK, D.under, pure_intR, under_intR, pure_listsR, under_listsR, hns]) (by simp [wkE, St.lp, keepE, getK_cons, getK, pure_intR, under_intR, pure_listsR, under_listsR, hns] <;> (try (intros; simp_all; done)) <;> (try (intros; omega)) <;> (try grind)))
  · have hlk : k < last.length := (List.getElem?_eq_some_iff.1 hx).1
    have hv := h3 v (List.mem_of_getElem? hx)
    obtain ⟨l, hl⟩ : ∃ l, B[v]? = some l := ⟨_, List.getElem?_eq_getElem (by omega)⟩
    obtain ⟨hll2, hlg⟩ := hBg l (List.mem_of_getElem? hl)
    have hgd : B.getD v [] = l := by simp [List.getD_eq_getElem?_getD, hl]
    have hsn := reach_snoc (B := B) (i := i) hx
    rw [hgd] at hsn
    have hhf := has_fun l (i : Int) (by omega)
    by_cases hr : reach B (last.take k) i = true
    · rw [hr, Bool.true_or] at hsn
      repeat' (first
    | (refine H_cons ?_; simp [hx, hr, hl])
    | (refine H_nil ?_; simp [hx, hr, hl])
    | (refine ⟨by omega, ?_⟩)
    | (refine V_sseq ?_; simp [hx, hr, hl])
    | (refine V_scond ?_; simp [hx, hr, hl])
    | (refine V_sregion ?_; simp [hx, hr, hl])
    | (refine V_skip ?_; simp only [RK_seq, RK_seq_ret, RK_seq_exit, RK_blk, RK_blk_ret, RK_blk_exit, RK_loop, RK_loop_ret, RK_loop_exit, RK_done])
    | (refine ⟨?_, by omega⟩)
    | (intro hc <;> (try (exfalso; omega)))
    | fail)
      refine LoopW.next ⟨k + 1, by omega⟩ (by simp; omega) ?_
      exact (Wk.cut rfl (by simp [hn, St.lp]) (by simp [wkO, St.lp, getK_cons, getK, Ob.under, D.under, under_rowsD, under_entD, pure_intR, under_intR, pure_listsR, under_listsR, hsn]) (by simp [wkU, St.lp, keepE, getK_cons, getK, D.under, pure_intR, under_intR, pure_listsR, under_listsR, hsn]) (by simp [wkE, St.lp, keepE, getK_cons, getK, pure_intR, under_intR, pure_listsR, under_listsR, hsn] <;> (try (intros; simp_all; done)) <;> (try (intros; omega)) <;> (try grind)))
    · have hr2 : reach B (last.take k) i = false := by simpa using hr
      rw [hr2, Bool.false_or] at hsn
      repeat' (first
    | (refine H_cons ?_; simp [hx, hr2, hl])
    | (refine H_nil ?_; simp [hx, hr2, hl])
    | (refine ⟨by omega, ?_⟩)
    | (refine V_sseq ?_; simp [hx, hr2, hl])
    | (refine V_scond ?_; simp [hx, hr2, hl])
    | (refine V_sregion ?_; simp [hx, hr2, hl])
    | (refine V_skip ?_; simp only [RK_seq, RK_seq_ret, RK_seq_exit, RK_blk, RK_blk_ret, RK_blk_exit, RK_loop, RK_loop_ret, RK_loop_exit, RK_done])
    | (refine ⟨?_, by omega⟩)
    | (intro hc <;> (try (exfalso; omega)))
    | (refine CallP.fun_ (hhf) (by first | rfl | fail) (by first | assumption | (simp; done) | fail) (by first | (simp [hx, hr2, hl]; done) | (simp [hx, hr2, hl]; rfl) | fail) (by first | (simp; done) | fail) (fun d hd => ?_); subst hd; (try simp [hx, hr2, hl]))
    | fail)
      refine LoopW.next ⟨k + 1, by omega⟩ (by simp; omega) ?_
      exact (Wk.cut rfl (by simp [hn, St.lp]) (by simp [wkO, St.lp, getK_cons, getK, Ob.under, D.under, under_rowsD, under_entD, pure_intR, under_intR, pure_listsR, under_listsR, hsn]) (by simp [wkU, St.lp, keepE, getK_cons, getK, D.under, pure_intR, under_intR, pure_listsR, under_listsR, hsn]) (by simp [wkE, St.lp, keepE, getK_cons, getK, pure_intR, under_intR, pure_listsR, under_listsR, hsn] <;> (try (intros; simp_all; done)) <;> (try (intros; omega)) <;> (try grind)))
end Go.Proofs.Ytjmddlekokodfaa
