/- Layer 13: the search of the program: the walk. -/
import Derived.Test.YtdkadmchdocjbaaDo
set_option linter.all false
set_option maxRecDepth 100000
set_option maxHeartbeats 8000000
set_option linter.all false
namespace Go.Proofs.Ytdkadmchdocjbaa
open Go Go.VL
theorem sortS_sorted (l : List Int) : (sortS l).Pairwise (· ≤ ·) := by
  have := List.pairwise_mergeSort (le := fun (x y : Int) => decide (x ≤ y)) (fun a b c h1 h2 => by simp at *; omega) (fun a b => by simp; omega) l
  simpa [sortS] using this
theorem sortS_perm (l : List Int) : (sortS l).Perm l := List.mergeSort_perm l _
theorem compact_mem (zs : List Int) (x : Int) : x ∈ Lib.compact zs ↔ x ∈ zs := by
  unfold Lib.compact Lib.compactUpTo
  simp only [List.mem_map, List.mem_filter, List.mem_range]
  constructor
  · rintro ⟨j, ⟨hj, _⟩, rfl⟩
    simp [hj]
  · intro h
    obtain ⟨k, hk⟩ := List.getElem?_of_mem h
    have hkl := (List.getElem?_eq_some_iff.1 hk).1
    obtain ⟨j, h1, h2, h3, h4⟩ := first_of (P := fun j => zs[j - 1]? = some x) (k := k + 1) (by omega) (by simpa using hk)
    have hjl := (List.getElem?_eq_some_iff.1 h3).1
    refine ⟨j - 1, ⟨hjl, ?_⟩, ?_⟩
    · simp only [Lib.keeps, decide_eq_true_eq]
      by_cases h0 : j - 1 = 0
      · exact .inl h0
      · right
        have h5 := h4 (j - 1) (by omega) (by omega)
        intro e
        apply h5
        have e2 : zs[j - 1 - 1]? = zs[j - 1]? := by
          rw [List.getElem?_eq_getElem (by omega), List.getElem?_eq_getElem hjl]
          congr 1
          simpa [hjl, show j - 1 - 1 < zs.length by omega] using e.symm
        rw [e2, h3]
    · have := (List.getElem?_eq_some_iff.1 h3).2
      simp [hjl, this]
theorem compact_lt {zs : List Int} (hs : zs.Pairwise (· ≤ ·)) : (Lib.compact zs).Pairwise (· < ·) := by
  unfold Lib.compact Lib.compactUpTo
  rw [List.pairwise_map]
  refine List.Pairwise.imp_of_mem (fun {i j} hi hj hij => ?_) (List.Pairwise.filter _ List.pairwise_lt_range)
  have hj1 := List.mem_range.1 (List.mem_filter.1 hj).1
  have hj2 := (List.mem_filter.1 hj).2
  simp only [Lib.keeps, decide_eq_true_eq] at hj2
  have hil : i < zs.length := by omega
  have hne : zs[j] ≠ zs[j - 1] := by
    rcases hj2 with h | h
    · omega
    · simpa [hj1, show j - 1 < zs.length by omega] using h
  have h1 : zs[j - 1] ≤ zs[j] := List.pairwise_iff_getElem.1 hs (j - 1) j (by omega) hj1 (by omega)
  have h2 : zs[i] ≤ zs[j - 1] := by
    rcases Nat.lt_or_ge i (j - 1) with h | h
    · exact List.pairwise_iff_getElem.1 hs i (j - 1) (by omega) (by omega) h
    · obtain rfl : i = j - 1 := by omega
      exact Int.le_refl _
  simp [hj1, hil]
  omega
def nextP (nx : List Int) : List Int := Lib.compact (sortS nx)
theorem nextP_mem (nx : List Int) (x : Int) : x ∈ nextP nx ↔ x ∈ nx := by rw [nextP, compact_mem]; exact (sortS_perm nx).mem_iff
theorem nextP_len {n : Nat} (nx : List Int) (h : ∀ x ∈ nx, 0 ≤ x ∧ x < (n : Int)) : (nextP nx).length ≤ n := by
  have h1 : ((nextP nx).map Int.toNat).Nodup := by
    rw [List.Nodup, List.pairwise_map]
    refine List.Pairwise.imp_of_mem (fun {a b} ha hb hab e => ?_) (compact_lt (sortS_sorted nx))
    have := h a ((nextP_mem nx a).1 ha)
    have := h b ((nextP_mem nx b).1 hb)
    omega
  have h2 := nodup_le (n := n) h1 fun x hx => by
    obtain ⟨y, hy, rfl⟩ := List.mem_map.1 hx
    have := h y ((nextP_mem nx y).1 hy)
    omega
  simpa using h2
theorem PM.take {n : Nat} {l : List Con} {bg r all rest t st L} {v : Nat} {es : List Nat} (hl : OkC n l) (hv : (v : Int) ∈ all) (hm : ∀ i ∈ es, i ∈ fromS l v) (h : PM n l bg r all rest v es t st L) : ∀ q, q ≤ es.length → ∃ L', PM n l bg r all rest v (es.drop q) (t + q) ((es.take q).foldl (relP l) st) L'
  | 0, _ => ⟨L, by simpa using h⟩
  | q + 1, hq => by
    obtain ⟨L1, h1⟩ := PM.take hl hv hm h q (by omega)
    have hx : es[q]? = some es[q] := List.getElem?_eq_getElem (by omega)
    obtain ⟨c, h2, h3⟩ := mem_fromS.1 (hm es[q] (List.getElem_mem _))
    rw [List.drop_eq_getElem_cons (by omega)] at h1
    obtain ⟨L2, h4⟩ := h1.step hl h2 hv h3
    refine ⟨L2, ?_⟩
    rw [take_snoc hx, List.foldl_append]
    exact h4
theorem PI.take {n : Nat} {l : List Con} {bg r todo t g L} (hl : OkC n l) (h : PI n l bg r todo t g L) : ∀ p, p ≤ todo.length → ∃ L' u, PM n l bg r todo (todo.drop p) u [] (t + p * l.length) ((todo.take p).foldl (visitP l) (g, [])) L'
  | 0, _ => ⟨L, 0, by simpa using h.start⟩
  | p + 1, hp => by
    obtain ⟨L1, u, h1⟩ := PI.take hl h p (by omega)
    have hx : todo[p]? = some todo[p] := List.getElem?_eq_getElem (by omega)
    rw [List.drop_eq_getElem_cons (by omega)] at h1
    obtain ⟨L2, h2⟩ := h1.visit hl (List.getElem_mem _)
    refine ⟨L2, todo[p].toNat, ?_⟩
    rw [take_snoc hx, List.foldl_append, Nat.succ_mul, ← Nat.add_assoc]
    exact h2
def stOb (l : List Con) (m : Nat) (g : GS) : List (Nat × Ob) := [(5, .box [.u (consU l), .u (.sl ((List.range m).map fun v => [ints (nats (fromS l v))])), .vec 1 m, .vec 3 m, .vec 4 m]), (1, .vec 3 1 (intR (lst m g.val))), (3, .vec 3 1 (intR (lst m (preI (-1) g)))), (4, .vec 4 1 (boolR (bst m g.kn)))]
attribute [local simp] HS hcons hstep evPure opd uOf putOK St.put St.at getK binD binI binS binB nilD aggD eqUs cmpK lookD lookR rangeD Go.VL.nextD entryD keyD valU keyU lookK mkV entD_nil lookK_entD updK_entD1 updK_entD2 updK_entD3 allUE allUE_entD makeMapD mapUpdD mapEff updK valM Key.kk shiftI arith unD convD pickD loadD cellsAt fieldAddrD fieldD indexAddrD indexD sliceD cutD lenD minmaxD nilCheckD buildD fillD cellsD isOne ones setAll mkAgg allU allocD boxD storeD St.add buildSliceD appendD rowsOf makeD setOb getK_setOb getK_del getK_cons stripL strip guardTmp entry chunks zcells valD argsV argsW argW argU1 argU0 argsU0 argsU1 calleeOf scalarD scalarU delAll effD St.effS RK_seq RK_seq_ret RK_seq_exit RK_blk RK_blk_ret RK_blk_exit RK_loop RK_loop_ret RK_loop_exit RK_done vs_seq vs_block vs_skip vs_label vs_exit vs_ret vs_cond vs_region vs_loop vs_draw vs_range vs_scope applyW mkD rdIds lentIds callOf calleeOf freeOp D.ids Op.operands Call.operands isEffOp makeIfD typeAssertD conc concs conc1 uOfV panicD IntKind.bits allU2 allU2_append List.take_of_length_le List.range_succ
attribute [local irreducible] V G H HD HD2 HD4 HD4h RetX RunK Eff CallP CallV EndOK Fun Ret FinOK LoopI LoopW EndW
set_option maxHeartbeats 16000000 in
theorem run_ret (m : Nat) (l : List Con) (bg : Nat → Bool) (begin_ : List Int) (gF : GS) (ret : Int) (hm : m ≤ 200) (hl : OkC m l) (hll : l.length ≤ 2000) (hK : (m + 1) * (m * l.length) ≤ 3000000) (hbl : begin_.length ≤ m)
    (hbg : ∀ x, x ∈ begin_ ↔ 0 ≤ x ∧ x < m ∧ bg x.toNat = true) (hF : runP nextP l (m + 1) (GS.zero bg) begin_ = (gF, ret)) :
    Ret Try.prog 24 [.ptr 5 0, .u (ints begin_)] (stOb l m (GS.zero bg)) 6 fun d obs nx' => d = .u (.int .i64 ret) ∧ obs = stOb l m gF ∧ nx' = 6 := by
  have hcl := clone_fun begin_ (by omega)
  simp only [stOb, consU, ints] at hcl ⊢
  (refine Ret.of_bodyW Try.func24 rfl (by simp) fun Γ hn => ?_); simp only [entry, List.zipIdx_cons, List.zipIdx_nil, List.map_cons, List.map_nil, Nat.zero_add, Try.ntmps24]
  repeat' (first
    | (refine H_cons ?_; simp [intR_len, lst_len])
    | (refine H_nil ?_; simp [intR_len, lst_len])
    | (refine ⟨by omega, ?_⟩)
    | (refine V_sseq ?_; simp [intR_len, lst_len])
    | (refine V_sblock ?_; simp [intR_len, lst_len])
    | (refine CallP.fun_ (hcl) (by first | rfl | fail) (by first | assumption | (simp; done) | fail) (by first | (simp [intR_len, lst_len]; done) | (simp [intR_len, lst_len]; rfl) | fail) (by first | (simp; done) | fail) (fun d hd => ?_); subst hd; (try simp [intR_len, lst_len]))
    | fail)
  refine V_loopO (α := { s : Nat × GS × List Int // s.1 ≤ m + 1 ∧ s.2.2.length ≤ m ∧ (s.1 = m + 1 → s.2.2 ≠ []) ∧ (∃ t L, t ≤ s.1 * (m * l.length) ∧ PI m l bg s.1 s.2.2 t s.2.1 L) ∧ runP nextP l (m + 1 - s.1) s.2.1 s.2.2 = (gF, ret) }) [0, 20]
    (fun s => [(5, .u (.sl (s.1.2.2.map fun n => [U.int .i64 n]))), (21, .u (.int .i64 s.1.1))])
    (fun s => [(5, .box [.u (.sl (l.map fun c => [.int .i64 c.A, .int .i64 c.B, .int .i64 c.N])), .u (.sl ((List.range m).map fun v => [.sl ((nats (fromS l v)).map fun n => [.int .i64 n])])), .vec 1 m, .vec 3 m, .vec 4 m]), (1, .vec 3 1 (intR (lst m s.1.2.1.val))), (3, .vec 3 1 (intR (lst m (preI (-1) s.1.2.1)))), (4, .vec 4 1 (boolR (bst m s.1.2.1.kn)))]) 6 (fun s => m + 1 - s.1.1)
    ⟨(0, GS.zero bg, begin_), by omega, hbl, by simp, ⟨0, fun _ => 0, by simp, PI.zero hl hbg⟩, hF⟩ ?_ ?_
  · exact (Wk.cut rfl (by simp [hn, St.lp]) (by simp [wkO, St.lp, getK_cons, getK, Ob.under, D.under, under_rowsD, under_entD, pure_intR, under_intR, pure_boolR, under_boolR]) (by simp [wkU, St.lp, keepE, getK_cons, getK, D.under, pure_intR, under_intR, pure_boolR, under_boolR]) (by simp [wkE, St.lp, keepE, getK_cons, getK, pure_intR, under_intR, pure_boolR, under_boolR] <;> (try (intros; simp_all; done)) <;> (try (intros; omega)) <;> (try grind)))
  rintro ⟨⟨r, g, todo⟩, hr, htl, hrt, ⟨t, L, ht, hPI⟩, hfin⟩
  simp only at hr htl hrt ht hPI hfin
  simp [St.lp, St.only, keepE, getK_cons, getK]
  by_cases hrm : r = m + 1
  · subst hrm
    have hne := hrt rfl
    rw [Nat.sub_self, runP] at hfin
    cases todo with
    | nil => exact absurd rfl hne
    | cons v todo =>
      simp only [List.headD_cons, Prod.mk.injEq] at hfin
      obtain ⟨rfl, rfl⟩ := hfin
      repeat' (first
    | (refine H_cons ?_; simp)
    | (refine H_nil ?_; simp)
    | (refine V_sseq ?_; simp)
    | (refine V_ret ?_; simp only [RK_seq, RK_seq_ret, RK_seq_exit, RK_blk, RK_blk_ret, RK_blk_exit, RK_loop, RK_loop_ret, RK_loop_exit, RK_done])
    | (refine V_exit ?_; simp [RK_seq, RK_seq_ret, RK_seq_exit, RK_blk, RK_blk_ret, RK_blk_exit, RK_loop, RK_loop_ret, RK_loop_exit, RK_done])
    | fail)
      refine EndW.here ?_
      (first | (refine EndOK.fin (.inr rfl) ?_) | (refine EndOK.fin (.inl rfl) ?_)); simp [resD, oneOrTup, Try.results24]
      exact FinOK.here (by simp) ⟨rfl, rfl, rfl⟩
  have hrlt : (r : Int) < (m : Int) + 1 := by omega
  obtain ⟨f, hf⟩ : ∃ f, m + 1 - r = f + 1 := ⟨m - r, by omega⟩
  rw [hf, runP] at hfin
  repeat' (first
    | (refine H_cons ?_; simp [hrlt])
    | (refine H_nil ?_; simp [hrlt])
    | (refine V_sseq ?_; simp [hrlt])
    | (refine V_sblock ?_; simp [hrlt])
    | (refine V_skip ?_; simp only [RK_seq, RK_seq_ret, RK_seq_exit, RK_blk, RK_blk_ret, RK_blk_exit, RK_loop, RK_loop_ret, RK_loop_exit, RK_done])
    | fail)
  refine V_wk _ (Wk.own 6 3 1 (by decide) rfl) ?_
  simp [St.own]
  have hk2 : r * (m * l.length) + m * l.length ≤ (m + 1) * (m * l.length) := by rw [← Nat.succ_mul]; exact Nat.mul_le_mul_right _ (by omega)
  have hk3 : todo.length * l.length ≤ m * l.length := Nat.mul_le_mul_right _ htl
  obtain ⟨S2, hS2⟩ : ∃ S2 : Nat → GS × List Int, S2 = fun p => (todo.take p).foldl (visitP l) (g, []) := ⟨_, rfl⟩
  have hS20 : S2 0 = (g, []) := by rw [hS2]; rfl
  refine V_loopO (α := { p : Nat // p ≤ todo.length }) [0, 5, 20, 21, 23, 24] (fun p => [(6, .vec 6 (S2 p.1).2.length), (25, .u (.int .i64 p.1))])
    (fun p => [(6, .vec 3 1 (intR (S2 p.1).2)), (5, .box [.u (.sl (l.map fun c => [.int .i64 c.A, .int .i64 c.B, .int .i64 c.N])), .u (.sl ((List.range m).map fun v => [.sl ((nats (fromS l v)).map fun n => [.int .i64 n])])), .vec 1 m, .vec 3 m, .vec 4 m]), (1, .vec 3 1 (intR (lst m (S2 p.1).1.val))), (3, .vec 3 1 (intR (lst m (preI (-1) (S2 p.1).1)))), (4, .vec 4 1 (boolR (bst m (S2 p.1).1.kn)))]) 7 (fun p => todo.length - p.1) ⟨0, by omega⟩ ?_ ?_
  · exact (Wk.cut rfl (by simp [hn, St.lp]) (by simp [wkO, St.lp, getK_cons, getK, Ob.under, D.under, under_rowsD, under_entD, pure_intR, under_intR, pure_boolR, under_boolR, hS20, intR]) (by simp [wkU, St.lp, keepE, getK_cons, getK, D.under, pure_intR, under_intR, pure_boolR, under_boolR, hS20, intR]) (by simp [wkE, St.lp, keepE, getK_cons, getK, pure_intR, under_intR, pure_boolR, under_boolR, hS20, intR] <;> (try (intros; simp_all; done)) <;> (try (intros; omega)) <;> (try grind)))
  rintro ⟨p, hp⟩
  simp [St.lp, St.only, keepE, getK_cons, getK]
  obtain ⟨L2, u, hPM⟩ := hPI.take hl p hp
  have hpl : p * l.length ≤ todo.length * l.length := Nat.mul_le_mul_right _ hp
  have hS2p : (todo.take p).foldl (visitP l) (g, []) = S2 p := by rw [hS2]
  rw [hS2p] at hPM
  rcases hv : todo[p]? with _ | v
  · have hge : todo.length ≤ p := by simpa using hv
    obtain rfl : p = todo.length := by omega
    have hrd : S2 todo.length = roundP l g todo := by rw [hS2]; simp only [List.take_length]; rfl
    rw [hrd] at hPM ⊢
    rw [List.drop_length] at hPM
    rcases hq : roundP l g todo with ⟨g', nx⟩
    rw [hq] at hfin hPM
    simp only at hfin
    have hnl := hPM.len
    simp only at hnl
    by_cases hnx : nx = []
    · subst hnx
      simp only [if_true, Prod.mk.injEq] at hfin
      obtain ⟨rfl, rfl⟩ := hfin
      repeat' (first
    | (refine H_cons ?_; simp [hv])
    | (refine H_nil ?_; simp [hv])
    | (refine V_sseq ?_; simp [hv])
    | (refine V_scond ?_; simp [hv])
    | (refine V_ret ?_; simp only [RK_seq, RK_seq_ret, RK_seq_exit, RK_blk, RK_blk_ret, RK_blk_exit, RK_loop, RK_loop_ret, RK_loop_exit, RK_done])
    | (refine V_exit ?_; simp [RK_seq, RK_seq_ret, RK_seq_exit, RK_blk, RK_blk_ret, RK_blk_exit, RK_loop, RK_loop_ret, RK_loop_exit, RK_done])
    | fail)
      refine EndW.wk { n := _, env := [(4, .u (.int .i64 (-1)))], obs := [(5, .box [.u (.sl (l.map fun c => [.int .i64 c.A, .int .i64 c.B, .int .i64 c.N])), .u (.sl ((List.range m).map fun v => [.sl ((nats (fromS l v)).map fun n => [.int .i64 n])])), .vec 1 m, .vec 3 m, .vec 4 m]), (1, .vec 3 1 (intR (lst m g'.val))), (3, .vec 3 1 (intR (lst m (preI (-1) g')))), (4, .vec 4 1 (boolR (bst m g'.kn)))], next := 6 } (Wk.cut rfl (by simp [hn, St.lp]) (by simp [wkO, St.lp, getK_cons, getK, Ob.under, D.under, under_rowsD, under_entD, pure_intR, under_intR, pure_boolR, under_boolR]) (by simp [wkU, St.lp, keepE, getK_cons, getK, D.under, pure_intR, under_intR, pure_boolR, under_boolR]) (by simp [wkE, St.lp, keepE, getK_cons, getK, pure_intR, under_intR, pure_boolR, under_boolR] <;> (try (intros; simp_all; done)) <;> (try (intros; omega)) <;> (try grind))) (EndW.here ?_)
      (first | (refine EndOK.fin (.inr rfl) ?_) | (refine EndOK.fin (.inl rfl) ?_)); simp [resD, oneOrTup, Try.results24]
      exact FinOK.here (by simp) ⟨rfl, rfl, rfl⟩
    · rw [if_neg hnx] at hfin
      have hsl : (sortS nx).length = nx.length := by simp [sortS]
      have hnz : ¬ nx.length = 0 := fun h => hnx (List.eq_nil_of_length_eq_zero h)
      have hsr := sort_ret 3 6 7 (by omega) nx (by omega)
      have hcr := compact_ret 3 6 7 (by omega) (sortS nx) (by omega)
      rw [hsl] at hcr
      have hcle : (Lib.compact (sortS nx)).length ≤ nx.length := by rw [← hsl]; exact Lib.compact_length_le _
      have hcsl := compS_len (sortS nx)
      rw [hsl] at hcsl
      have htake : (compS (sortS nx)).take (Lib.compact (sortS nx)).length = nextP nx := by rw [compS, List.take_left' rfl]; rfl
      repeat' (first
    | (refine H_cons ?_; simp [hv, hnz, hnx, intR_len, hcsl, hcle, del, getK_append])
    | (refine H_nil ?_; simp [hv, hnz, hnx, intR_len, hcsl, hcle, del, getK_append])
    | (refine ⟨by omega, ?_⟩)
    | (refine V_sseq ?_; simp [hv, hnz, hnx, intR_len, hcsl, hcle, del, getK_append])
    | (refine V_scond ?_; simp [hv, hnz, hnx, intR_len, hcsl, hcle, del, getK_append])
    | (refine V_sregion ?_; simp [hv, hnz, hnx, intR_len, hcsl, hcle, del, getK_append])
    | (refine V_skip ?_; simp only [RK_seq, RK_seq_ret, RK_seq_exit, RK_blk, RK_blk_ret, RK_blk_exit, RK_loop, RK_loop_ret, RK_loop_exit, RK_done])
    | (refine V_exit ?_; simp [RK_seq, RK_seq_ret, RK_seq_exit, RK_blk, RK_blk_ret, RK_blk_exit, RK_loop, RK_loop_ret, RK_loop_exit, RK_done])
    | (refine CallP.ret1 (hsr) (by simp [getK]) (by rfl) (by first | assumption | simp) (by rfl) (by simp) ?_; rintro d o n' hn' ⟨rfl, rfl, rfl⟩; (try simp at hn'); (try simp [hv, hnz, hnx, intR_len, hcsl, hcle, del, getK_append]))
    | (refine CallP.ret1 (hcr) (by simp [getK]) (by rfl) (by first | assumption | simp) (by rfl) (by simp) ?_; rintro d o n' hn' ⟨rfl, rfl, rfl⟩; (try simp at hn'); (try simp [hv, hnz, hnx, intR_len, hcsl, hcle, del, getK_append]))
    | fail)
      have hmt : ((compS (sortS nx)).map fun z => [U.int .i64 z]).take (Lib.compact (sortS nx)).length = (nextP nx).map fun z => [U.int .i64 z] := by rw [← List.map_take, htake]
      have hnn : nextP nx ≠ [] := fun e => by
        obtain ⟨x, hx⟩ := List.exists_mem_of_ne_nil _ hnx
        have := (nextP_mem nx x).2 hx
        rw [e] at this
        cases this
      refine LoopW.next ⟨(r + 1, g', nextP nx), by simp only; omega, nextP_len nx fun x hx => let ⟨a, b, _⟩ := hPM.nx x hx; ⟨a, b⟩, fun _ => hnn, ⟨t + todo.length * l.length, L2, by simp only; rw [Nat.succ_mul]; omega, hPM.fin fun x => nextP_mem nx x⟩, by simp only; rw [show m + 1 - (r + 1) = f by omega]; exact hfin⟩ (by simp; omega) ?_
      refine (Wk.frz (e := 3) (sz := 1) 6 [] (us := (compS (sortS nx)).map fun z => [U.int .i64 z]) (by simp [getK_cons]) (intR_all _)).trans ?_
      simp only [St.frz, St.frzS, frzS, fv, fzVec, frzObS, List.map_cons, List.map_nil]
      exact (Wk.cut rfl (by simp [hn, St.lp]) (by simp [wkO, St.lp, getK_cons, getK, Ob.under, D.under, under_rowsD, under_entD, pure_intR, under_intR, pure_boolR, under_boolR, hcsl, hcle, hmt]) (by simp [wkU, St.lp, keepE, getK_cons, getK, D.under, pure_intR, under_intR, pure_boolR, under_boolR, hcsl, hcle, hmt]) (by simp [wkE, St.lp, keepE, getK_cons, getK, pure_intR, under_intR, pure_boolR, under_boolR, hcsl, hcle, hmt] <;> (try (intros; simp_all; done)) <;> (try (intros; omega)) <;> (try grind)))
  · have hlt : p < todo.length := (List.getElem?_eq_some_iff.1 hv).1
    have hdr : todo.drop p = v :: todo.drop (p + 1) := by
      rw [List.drop_eq_getElem_cons hlt]
      congr 1
      exact (List.getElem?_eq_some_iff.1 hv).2
    rw [hdr] at hPM
    have hvm := List.mem_of_getElem? hv
    obtain ⟨hv0, hvn, hvk, hvL⟩ := hPM.all v hvm
    obtain ⟨V, rfl⟩ := Int.eq_ofNat_of_zero_le hv0
    simp only [Int.toNat_natCast] at hvk hvL
    have hVm : V < m := by omega
    have hPN := hPM.next hl
    rw [Int.toNat_natCast] at hPN
    have hfl := fromS_len l V
    obtain ⟨S3, hS3⟩ : ∃ S3 : Nat → GS × List Int, S3 = fun q => ((fromS l V).take q).foldl (relP l) (S2 p) := ⟨_, rfl⟩
    have hS30 : S3 0 = S2 p := by rw [hS3]; rfl
    have hS31 : S3 (fromS l V).length = S2 (p + 1) := by
      rw [hS3, hS2]
      simp only [List.take_length]
      rw [take_snoc hv, List.foldl_append]
      rfl
    repeat' (first
    | (refine H_cons ?_; simp [hv, hVm])
    | (refine H_nil ?_; simp [hv, hVm])
    | (refine V_sseq ?_; simp [hv, hVm])
    | (refine V_sblock ?_; simp [hv, hVm])
    | (refine V_skip ?_; simp only [RK_seq, RK_seq_ret, RK_seq_exit, RK_blk, RK_blk_ret, RK_blk_exit, RK_loop, RK_loop_ret, RK_loop_exit, RK_done])
    | (refine ⟨?_, by omega⟩)
    | (intro hc <;> (try (exfalso; omega)))
    | fail)
    refine V_loopO (α := { q : Nat // q ≤ (fromS l V).length }) [0, 5, 8, 20, 21, 23, 24, 25, 35, 36] (fun q => [(6, .vec 6 (S3 q.1).2.length), (37, .u (.int .i64 q.1))])
      (fun q => [(6, .vec 3 1 (intR (S3 q.1).2)), (5, .box [.u (.sl (l.map fun c => [.int .i64 c.A, .int .i64 c.B, .int .i64 c.N])), .u (.sl ((List.range m).map fun v => [.sl ((nats (fromS l v)).map fun n => [.int .i64 n])])), .vec 1 m, .vec 3 m, .vec 4 m]), (1, .vec 3 1 (intR (lst m (S3 q.1).1.val))), (3, .vec 3 1 (intR (lst m (preI (-1) (S3 q.1).1)))), (4, .vec 4 1 (boolR (bst m (S3 q.1).1.kn)))]) 7 (fun q => (fromS l V).length - q.1) ⟨0, by omega⟩ ?_ ?_
    · exact (Wk.cut rfl (by simp [hn, St.lp]) (by simp [wkO, St.lp, getK_cons, getK, Ob.under, D.under, under_rowsD, under_entD, pure_intR, under_intR, pure_boolR, under_boolR, hS30]) (by simp [wkU, St.lp, keepE, getK_cons, getK, D.under, pure_intR, under_intR, pure_boolR, under_boolR, hS30]) (by simp [wkE, St.lp, keepE, getK_cons, getK, pure_intR, under_intR, pure_boolR, under_boolR, hS30] <;> (try (intros; simp_all; done)) <;> (try (intros; omega)) <;> (try grind)))
    rintro ⟨q, hq⟩
    simp [St.lp, St.only, keepE, getK_cons, getK]
    obtain ⟨L3, hPQ⟩ := hPN.take hl hvm (fun _ h => h) q hq
    have hS3q : ((fromS l V).take q).foldl (relP l) (S2 p) = S3 q := by rw [hS3]
    rw [hS3q] at hPQ
    rcases hi : (fromS l V)[q]? with _ | i
    · have hge : (fromS l V).length ≤ q := by simpa using hi
      obtain rfl : q = (fromS l V).length := by omega
      rw [hS31]
      repeat' (first
    | (refine H_cons ?_; simp [hi])
    | (refine H_nil ?_; simp [hi])
    | (refine ⟨by omega, ?_⟩)
    | (refine V_sseq ?_; simp [hi])
    | (refine V_sregion ?_; simp [hi])
    | (refine V_exit ?_; simp [RK_seq, RK_seq_ret, RK_seq_exit, RK_blk, RK_blk_ret, RK_blk_exit, RK_loop, RK_loop_ret, RK_loop_exit, RK_done])
    | fail)
      refine LoopW.next ⟨p + 1, by omega⟩ (by simp; omega) ?_
      exact (Wk.cut rfl (by simp [hn, St.lp]) (by simp [wkO, St.lp, getK_cons, getK, Ob.under, D.under, under_rowsD, under_entD, pure_intR, under_intR, pure_boolR, under_boolR]) (by simp [wkU, St.lp, keepE, getK_cons, getK, D.under, pure_intR, under_intR, pure_boolR, under_boolR]) (by simp [wkE, St.lp, keepE, getK_cons, getK, pure_intR, under_intR, pure_boolR, under_boolR] <;> (try (intros; simp_all; done)) <;> (try (intros; omega)) <;> (try grind)))
    · have hqlt : q < (fromS l V).length := (List.getElem?_eq_some_iff.1 hi).1
      obtain ⟨c, hci, hcb⟩ := mem_fromS.1 (List.mem_of_getElem? hi)
      have hS3s : S3 (q + 1) = relP l (S3 q) i := by rw [hS3]; simp only; rw [take_snoc hi, List.foldl_append]; rfl
      have hbd := hPQ.bd
      have hnl := hPQ.len
      rcases hst : S3 q with ⟨G, nx⟩
      rw [hst] at hS3s hbd hnl
      simp only at hbd hnl
      have htt : t + p * l.length + q ≤ 4000000 := by omega
      have hva := hbd.small htt c.a
      have hvb := hbd.small htt V
      obtain ⟨ha0, han, hb0, hbn, hN1, hN2⟩ := hl c (List.mem_of_getElem? hci)
      have hN3 : -1099511627776 ≤ c.N ∧ c.N ≤ 1099511627776 := ⟨hN1, hN2⟩
      have hau := upd_val G i c m
      have hku := upd_kn G i c m
      have hpu := upd_pre (-1) G i c m
      have hrel : relP l (G, nx) i = if (!G.kn c.a || decide (G.val c.b + c.N < G.val c.a)) = true then (G.upd i c, nx ++ [c.A]) else (G, nx) := by unfold relP; rw [hci]
      rw [hrel, hcb] at hS3s
      rw [hcb] at hau
      obtain ⟨A, B, N⟩ := c
      simp only [Con.a] at *
      obtain ⟨a, rfl⟩ := Int.eq_ofNat_of_zero_le ha0
      simp only [Int.toNat_natCast] at *
      have han' : a < m := by omega
      have q7 : intR nx ++ [[D.u (.int .i64 (a : Int))]] = intR (nx ++ [(a : Int)]) := by simp [intR]
      have q8 := intR_lenR nx
      cases hka : G.kn a with
      | false =>
        simp only [hka, Bool.not_false, Bool.true_or, if_true] at hS3s
        repeat' (first
    | (refine H_cons ?_; simp [hi, hci, intR_len, intR_getE, intR_set, lst_len, lst_getE, lst_set, boolR_len, boolR_getE, boolR_set, bst_len, bst_getE, bst_set, hka, han', hVm, hau, hku, hpu, q7, q8])
    | (refine HD4_val rfl ?_; simp [hi, hci, intR_len, intR_getE, intR_set, lst_len, lst_getE, lst_set, boolR_len, boolR_getE, boolR_set, bst_len, bst_getE, bst_set, hka, han', hVm, hau, hku, hpu, q7, q8])
    | (refine HD4_chg rfl ?_; simp [hi, hci, intR_len, intR_getE, intR_set, lst_len, lst_getE, lst_set, boolR_len, boolR_getE, boolR_set, bst_len, bst_getE, bst_set, hka, han', hVm, hau, hku, hpu, q7, q8])
    | (refine H_nil ?_; simp [hi, hci, intR_len, intR_getE, intR_set, lst_len, lst_getE, lst_set, boolR_len, boolR_getE, boolR_set, bst_len, bst_getE, bst_set, hka, han', hVm, hau, hku, hpu, q7, q8])
    | (refine ⟨by omega, ?_⟩)
    | (refine V_sseq ?_; simp [hi, hci, intR_len, intR_getE, intR_set, lst_len, lst_getE, lst_set, boolR_len, boolR_getE, boolR_set, bst_len, bst_getE, bst_set, hka, han', hVm, hau, hku, hpu, q7, q8])
    | (refine V_scond ?_; simp [hi, hci, intR_len, intR_getE, intR_set, lst_len, lst_getE, lst_set, boolR_len, boolR_getE, boolR_set, bst_len, bst_getE, bst_set, hka, han', hVm, hau, hku, hpu, q7, q8])
    | (refine HD4_nil (hC _ (by kernel_rfl)) (hk _ ?_); clear hC hk C k; simp only [RK_seq, RK_seq_ret, RK_seq_exit, RK_blk, RK_blk_ret, RK_blk_exit, RK_loop, RK_loop_ret, RK_loop_exit, RK_done])
    | (refine V_drawX rfl (by kernel_rfl) (by first | (simp [hn]; done) | (simp [hn]; omega) | fail) fun C k hC hk => ?_; simp [hi, hci, intR_len, intR_getE, intR_set, lst_len, lst_getE, lst_set, boolR_len, boolR_getE, boolR_set, bst_len, bst_getE, bst_set, hka, han', hVm, hau, hku, hpu, q7, q8])
    | (refine HD4_guard rfl (by simp [hi, hci, intR_len, intR_getE, intR_set, lst_len, lst_getE, lst_set, boolR_len, boolR_getE, boolR_set, bst_len, bst_getE, bst_set, hka, han', hVm, hau, hku, hpu, q7, q8]) (fun hc => ?_) (fun hc => ?_) <;> (try simp [hi, hci, intR_len, intR_getE, intR_set, lst_len, lst_getE, lst_set, boolR_len, boolR_getE, boolR_set, bst_len, bst_getE, bst_set, hka, han', hVm, hau, hku, hpu, q7, q8] at hc) <;> (try (exfalso; omega)) <;> (try simp [hi, hci, intR_len, intR_getE, intR_set, lst_len, lst_getE, lst_set, boolR_len, boolR_getE, boolR_set, bst_len, bst_getE, bst_set, hka, han', hVm, hau, hku, hpu, q7, q8]))
    | (refine V_sregion ?_; simp [hi, hci, intR_len, intR_getE, intR_set, lst_len, lst_getE, lst_set, boolR_len, boolR_getE, boolR_set, bst_len, bst_getE, bst_set, hka, han', hVm, hau, hku, hpu, q7, q8])
    | (refine V_skip ?_; simp only [RK_seq, RK_seq_ret, RK_seq_exit, RK_blk, RK_blk_ret, RK_blk_exit, RK_loop, RK_loop_ret, RK_loop_exit, RK_done])
    | (refine ⟨?_, by omega⟩)
    | (intro hc <;> (try (exfalso; omega)))
    | fail)
        refine LoopW.next ⟨q + 1, by omega⟩ (by simp; omega) ?_
        exact (Wk.ren1 (6) (9) rfl (by simp [hn]) (by simp [hn]) (by simp [pure_intR, under_intR, pure_boolR, under_boolR, hS3s]) (by simp [wkER, rho1, St.lp, keepE, getK_cons, getK, getK_del, getK_setOb, D.under, D.le, D.ren, pure_intR, under_intR, pure_boolR, under_boolR, hS3s] <;> (try (intros; simp_all; done)) <;> (try omega)) (by simp [wkR, wkR_tail1, endsIn_here, endsIn_cons, del_cons, del_fam, rho1, St.lp, getK_cons, getK, getK_del, getK_setOb, obR, leU, pureRow, pureRows, Ob.under, D.under, D.le, D.ren, pure_intR, under_intR, pure_boolR, under_boolR, hS3s] <;> (try (intros; simp_all; done)) <;> (try omega)))
      | true =>
        by_cases hlt2 : G.val V + N < G.val a
        · simp only [hka, Bool.not_true, Bool.false_or, decide_eq_true hlt2, if_true] at hS3s
          repeat' (first
    | (refine H_cons ?_; simp [hi, hci, intR_len, intR_getE, intR_set, lst_len, lst_getE, lst_set, boolR_len, boolR_getE, boolR_set, bst_len, bst_getE, bst_set, hka, han', hVm, hau, hku, hpu, q7, q8, hlt2])
    | (refine HD4_val rfl ?_; simp [hi, hci, intR_len, intR_getE, intR_set, lst_len, lst_getE, lst_set, boolR_len, boolR_getE, boolR_set, bst_len, bst_getE, bst_set, hka, han', hVm, hau, hku, hpu, q7, q8, hlt2])
    | (refine HD4_chg rfl ?_; simp [hi, hci, intR_len, intR_getE, intR_set, lst_len, lst_getE, lst_set, boolR_len, boolR_getE, boolR_set, bst_len, bst_getE, bst_set, hka, han', hVm, hau, hku, hpu, q7, q8, hlt2])
    | (refine HD4h_val rfl ?_; simp [hi, hci, intR_len, intR_getE, intR_set, lst_len, lst_getE, lst_set, boolR_len, boolR_getE, boolR_set, bst_len, bst_getE, bst_set, hka, han', hVm, hau, hku, hpu, q7, q8, hlt2])
    | (refine H_nil ?_; simp [hi, hci, intR_len, intR_getE, intR_set, lst_len, lst_getE, lst_set, boolR_len, boolR_getE, boolR_set, bst_len, bst_getE, bst_set, hka, han', hVm, hau, hku, hpu, q7, q8, hlt2])
    | (refine ⟨by omega, ?_⟩)
    | (refine V_sseq ?_; simp [hi, hci, intR_len, intR_getE, intR_set, lst_len, lst_getE, lst_set, boolR_len, boolR_getE, boolR_set, bst_len, bst_getE, bst_set, hka, han', hVm, hau, hku, hpu, q7, q8, hlt2])
    | (refine V_scond ?_; simp [hi, hci, intR_len, intR_getE, intR_set, lst_len, lst_getE, lst_set, boolR_len, boolR_getE, boolR_set, bst_len, bst_getE, bst_set, hka, han', hVm, hau, hku, hpu, q7, q8, hlt2])
    | (refine HD4_nil (hC _ (by kernel_rfl)) (hk _ ?_); clear hC hk C k; simp only [RK_seq, RK_seq_ret, RK_seq_exit, RK_blk, RK_blk_ret, RK_blk_exit, RK_loop, RK_loop_ret, RK_loop_exit, RK_done])
    | (refine V_drawX rfl (by kernel_rfl) (by first | (simp [hn]; done) | (simp [hn]; omega) | fail) fun C k hC hk => ?_; simp [hi, hci, intR_len, intR_getE, intR_set, lst_len, lst_getE, lst_set, boolR_len, boolR_getE, boolR_set, bst_len, bst_getE, bst_set, hka, han', hVm, hau, hku, hpu, q7, q8, hlt2])
    | (refine HD4_guard rfl (by simp [hi, hci, intR_len, intR_getE, intR_set, lst_len, lst_getE, lst_set, boolR_len, boolR_getE, boolR_set, bst_len, bst_getE, bst_set, hka, han', hVm, hau, hku, hpu, q7, q8, hlt2]) (fun hc => ?_) (fun hc => ?_) <;> (try simp [hi, hci, intR_len, intR_getE, intR_set, lst_len, lst_getE, lst_set, boolR_len, boolR_getE, boolR_set, bst_len, bst_getE, bst_set, hka, han', hVm, hau, hku, hpu, q7, q8, hlt2] at hc) <;> (try (exfalso; omega)) <;> (try simp [hi, hci, intR_len, intR_getE, intR_set, lst_len, lst_getE, lst_set, boolR_len, boolR_getE, boolR_set, bst_len, bst_getE, bst_set, hka, han', hVm, hau, hku, hpu, q7, q8, hlt2]))
    | (refine V_sregion ?_; simp [hi, hci, intR_len, intR_getE, intR_set, lst_len, lst_getE, lst_set, boolR_len, boolR_getE, boolR_set, bst_len, bst_getE, bst_set, hka, han', hVm, hau, hku, hpu, q7, q8, hlt2])
    | (refine V_skip ?_; simp only [RK_seq, RK_seq_ret, RK_seq_exit, RK_blk, RK_blk_ret, RK_blk_exit, RK_loop, RK_loop_ret, RK_loop_exit, RK_done])
    | (refine ⟨?_, by omega⟩)
    | (intro hc <;> (try (exfalso; omega)))
    | fail)
          refine LoopW.next ⟨q + 1, by omega⟩ (by simp; omega) ?_
          exact (Wk.ren1 (6) (9) rfl (by simp [hn]) (by simp [hn]) (by simp [pure_intR, under_intR, pure_boolR, under_boolR, hS3s]) (by simp [wkER, rho1, St.lp, keepE, getK_cons, getK, getK_del, getK_setOb, D.under, D.le, D.ren, pure_intR, under_intR, pure_boolR, under_boolR, hS3s] <;> (try (intros; simp_all; done)) <;> (try omega)) (by simp [wkR, wkR_tail1, endsIn_here, endsIn_cons, del_cons, del_fam, rho1, St.lp, getK_cons, getK, getK_del, getK_setOb, obR, leU, pureRow, pureRows, Ob.under, D.under, D.le, D.ren, pure_intR, under_intR, pure_boolR, under_boolR, hS3s] <;> (try (intros; simp_all; done)) <;> (try omega)))
        · simp only [hka, Bool.not_true, Bool.false_or, decide_eq_false hlt2, Bool.false_eq_true, if_false] at hS3s
          repeat' (first
    | (refine H_cons ?_; simp [hi, hci, intR_len, intR_getE, lst_len, lst_getE, boolR_len, boolR_getE, bst_len, bst_getE, hka, han', hVm, hlt2])
    | (refine HD4_val rfl ?_; simp [hi, hci, intR_len, intR_getE, lst_len, lst_getE, boolR_len, boolR_getE, bst_len, bst_getE, hka, han', hVm, hlt2])
    | (refine HD4h_val rfl ?_; simp [hi, hci, intR_len, intR_getE, lst_len, lst_getE, boolR_len, boolR_getE, bst_len, bst_getE, hka, han', hVm, hlt2])
    | (refine H_nil ?_; simp [hi, hci, intR_len, intR_getE, lst_len, lst_getE, boolR_len, boolR_getE, bst_len, bst_getE, hka, han', hVm, hlt2])
    | (refine ⟨by omega, ?_⟩)
    | (refine V_sseq ?_; simp [hi, hci, intR_len, intR_getE, lst_len, lst_getE, boolR_len, boolR_getE, bst_len, bst_getE, hka, han', hVm, hlt2])
    | (refine V_scond ?_; simp [hi, hci, intR_len, intR_getE, lst_len, lst_getE, boolR_len, boolR_getE, bst_len, bst_getE, hka, han', hVm, hlt2])
    | (refine HD4_nil (hC _ (by kernel_rfl)) (hk _ ?_); clear hC hk C k; simp only [RK_seq, RK_seq_ret, RK_seq_exit, RK_blk, RK_blk_ret, RK_blk_exit, RK_loop, RK_loop_ret, RK_loop_exit, RK_done])
    | (refine V_drawX rfl (by kernel_rfl) (by first | (simp [hn]; done) | (simp [hn]; omega) | fail) fun C k hC hk => ?_; simp [hi, hci, intR_len, intR_getE, lst_len, lst_getE, boolR_len, boolR_getE, bst_len, bst_getE, hka, han', hVm, hlt2])
    | (refine HD4_guard rfl (by simp [hi, hci, intR_len, intR_getE, lst_len, lst_getE, boolR_len, boolR_getE, bst_len, bst_getE, hka, han', hVm, hlt2]) (fun hc => ?_) (fun hc => ?_) <;> (try simp [hi, hci, intR_len, intR_getE, lst_len, lst_getE, boolR_len, boolR_getE, bst_len, bst_getE, hka, han', hVm, hlt2] at hc) <;> (try (exfalso; omega)) <;> (try simp [hi, hci, intR_len, intR_getE, lst_len, lst_getE, boolR_len, boolR_getE, bst_len, bst_getE, hka, han', hVm, hlt2]))
    | (refine V_sregion ?_; simp [hi, hci, intR_len, intR_getE, lst_len, lst_getE, boolR_len, boolR_getE, bst_len, bst_getE, hka, han', hVm, hlt2])
    | (refine V_skip ?_; simp only [RK_seq, RK_seq_ret, RK_seq_exit, RK_blk, RK_blk_ret, RK_blk_exit, RK_loop, RK_loop_ret, RK_loop_exit, RK_done])
    | (refine ⟨?_, by omega⟩)
    | (intro hc <;> (try (exfalso; omega)))
    | fail)
          refine LoopW.next ⟨q + 1, by omega⟩ (by simp; omega) ?_
          exact (Wk.cut rfl (by simp [hn, St.lp]) (by simp [wkO, St.lp, getK_cons, getK, Ob.under, D.under, under_rowsD, under_entD, pure_intR, under_intR, pure_boolR, under_boolR, hS3s]) (by simp [wkU, St.lp, keepE, getK_cons, getK, D.under, pure_intR, under_intR, pure_boolR, under_boolR, hS3s]) (by simp [wkE, St.lp, keepE, getK_cons, getK, pure_intR, under_intR, pure_boolR, under_boolR, hS3s] <;> (try (intros; simp_all; done)) <;> (try (intros; omega)) <;> (try grind)))
end Go.Proofs.Ytdkadmchdocjbaa
