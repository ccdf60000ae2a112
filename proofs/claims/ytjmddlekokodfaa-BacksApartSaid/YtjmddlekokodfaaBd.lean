/- Layer 26: the level after a level: the walk. -/
import Derived.Test.YtjmddlekokodfaaBq
set_option linter.all false
set_option maxRecDepth 100000
set_option maxHeartbeats 8000000
set_option linter.all false
namespace Go.Proofs.Ytjmddlekokodfaa
open Go Go.VL
def boolR (l : List Bool) : List (List D) := l.map fun b => [D.u (.bool b)]
theorem boolR_len (l : List Bool) : (boolR l).length = l.length := by simp [boolR]
theorem boolR_getE (l : List Bool) (i : Nat) (h : i < (boolR l).length) : (boolR l)[i] = [D.u (.bool (l[i]'(by simpa [boolR] using h)))] := by simp [boolR]
theorem boolR_set (l : List Bool) (i : Nat) (b : Bool) : (boolR l).set i [D.u (.bool b)] = boolR (l.set i b) := by simp [boolR, List.map_set]
theorem boolR_rep (n : Nat) : List.replicate n [D.u (.bool false)] = boolR (List.replicate n false) := by simp [boolR]
theorem pure_boolR (l : List Bool) : pureRows (boolR l) := by
  induction l with
  | nil => simp [boolR, pureRows]
  | cons a l ih => simp only [boolR] at ih; simp [boolR, pureRows, pureRow, ih]
theorem under_boolR (n : Nat) (l : List Bool) : (∀ x ∈ boolR l, ∀ y ∈ x, D.under n y = true) ↔ True := by
  refine ⟨fun _ => trivial, fun _ x hx y hy => ?_⟩
  obtain ⟨b, _, rfl⟩ := List.mem_map.1 hx
  simp at hy
  subst hy
  simp [D.under]
def seenF (n : Nat) (seen : List Nat) : List Bool := (List.range n).map fun i => decide (i ∈ seen)
theorem seenF_len (n : Nat) (seen : List Nat) : (seenF n seen).length = n := by simp [seenF]
theorem seenF_get {n : Nat} (seen : List Nat) {i : Nat} (h : i < n) : (seenF n seen)[i]? = some (decide (i ∈ seen)) := by simp [seenF, h]
theorem seenF_getE (n : Nat) (seen : List Nat) (i : Nat) (h : i < (seenF n seen).length) : (seenF n seen)[i] = decide (i ∈ seen) := by simp [seenF]
theorem seenF_set (n : Nat) (seen : List Nat) (i : Nat) : (seenF n seen).set i true = seenF n (seen ++ [i]) := by
  apply List.ext_getElem?
  intro j
  simp only [seenF, List.getElem?_set, List.length_map, List.length_range, List.getElem?_map]
  by_cases hj : i = j
  · subst hj
    by_cases hi : i < n <;> simp [hi]
  · rw [if_neg hj]
    by_cases hj2 : j < n
    · simp [hj2, Ne.symm hj]
    · simp [hj2]
abbrev nats (l : List Nat) : List Int := l.map Int.ofNat
theorem sort_next {n : Nat} {B : List (List Int)} {seen last O : List Nat} (hd : O.Nodup) (hO : ∀ i, i ∈ O ↔ i ∈ nextR n B seen last) : sortS (nats O) = nats (nextR n B seen last) := by
  have hp : O.Perm (nextR n B seen last) := (List.perm_ext_iff_of_nodup hd (nextR_nodup n B seen last)).2 hO
  refine List.Perm.eq_of_pairwise (le := fun a b : Int => a ≤ b) (fun a b _ _ h1 h2 => by omega) (sortS_sorted _) ?_ ((sortS_perm _).trans (hp.map _))
  exact List.pairwise_map.2 (List.Pairwise.imp (fun h => by simp; omega) (nextR_sorted n B seen last))
/-- Guarantors are members. -/
def OkB (n : Nat) (B : List (List Int)) : Prop := B.length = n ∧ ∀ l ∈ B, l.length ≤ n ∧ ∀ g ∈ l, 0 ≤ g ∧ g < n
attribute [local simp] hcons hstep evPure opd uOf putOK St.put St.at getK binD binI binS binB nilD aggD eqUs cmpK lookD lookR rangeD nextD entryD keyD valU keyU lookK mkV entD_nil lookK_entD updK_entD1 updK_entD2 updK_entD3 allUE allUE_entD makeMapD mapUpdD mapEff updK valM Key.kk shiftI arith unD convD pickD loadD cellsAt fieldAddrD fieldD indexAddrD indexD sliceD cutD lenD minmaxD nilCheckD buildD fillD cellsD isOne ones setAll mkAgg allU allocD boxD storeD St.add buildSliceD appendD rowsOf makeD setOb getK_setOb getK_del getK_cons stripL strip guardTmp entry chunks zcells valD argsV argsW argW argU1 argU0 argsU0 argsU1 calleeOf scalarD scalarU delAll effD St.effS RK_seq RK_seq_ret RK_seq_exit RK_blk RK_blk_ret RK_blk_exit RK_loop RK_loop_ret RK_loop_exit RK_done vs_seq vs_block vs_skip vs_label vs_exit vs_ret vs_cond vs_region vs_loop vs_draw vs_range vs_scope applyW mkD rdIds lentIds callOf calleeOf freeOp D.ids Op.operands Call.operands isEffOp IntKind.bits allU2 allU2_append List.take_of_length_le List.range_succ
attribute [local irreducible] V G H HD HD2 RunK Eff CallP CallV EndOK Fun Ret FinOK LoopI LoopW EndW
theorem next_ret (n M jl js : Nat) (hj1 : ¬ jl = 0) (hj2 : ¬ jl = js) (hj3 : jl < M + 16) (hk1 : ¬ js = 0) (hk3 : js < M + 16) (B : List (List Int)) (seen level : List Nat) (hn60 : n ≤ 60) (hB : OkB n B) (hlv : ∀ i ∈ level, i < n) (hll : level.length ≤ 1000) : Ret Try.prog 21 [.ptr 0 0, .vec jl level.length, .vec js n]
    [(0, .box [.u (lists B), .vec 1 n, .vec 2 n]), (jl, .vec 3 1 (intR (nats level))), (js, .vec 4 1 (boolR (seenF n seen)))] (M + 16)
    fun d obs nx' => d = .vec (M + 16) (nextR n B seen level).length ∧ nx' = M + 17 ∧
      obs = [(0, .box [.u (lists B), .vec 1 n, .vec 2 n]), (jl, .vec 3 1 (intR (nats level))), (js, .vec 4 1 (boolR (seenF n (seen ++ nextR n B seen level)))), (M + 16, .vec 3 1 (intR (nats (nextR n B seen level))))] := by
  obtain ⟨hBl, hBg⟩ := hB
  have hj4 : ¬ 0 = jl := by omega
  have hj5 : ¬ js = jl := by omega
  have hk4 : ¬ 0 = js := by omega
  have hk6 : ¬ js = M + 16 := by omega
  have hk7 : ¬ js = M + 17 := by omega
  have hk8 : ¬ js = M + 18 := by omega
  have hk10 : js < M + 17 := by omega
  have hk11 : js < M + 18 := by omega
  have hj6 : ¬ jl = M + 16 := by omega
  have hj7 : ¬ jl = M + 17 := by omega
  have hj8 : ¬ jl = M + 18 := by omega
  have hj10 : jl < M + 17 := by omega
  have hj11 : jl < M + 18 := by omega
  (refine Ret.of_bodyW Try.func21 rfl (by simp) fun Γ hn => ?_); simp only [entry, List.zipIdx_cons, List.zipIdx_nil, List.map_cons, List.map_nil, Nat.zero_add, Try.ntmps21]
  repeat' (first
    | (refine H_cons ?_; simp [intR_len, hj1, hj2, hj4, hj5, hj6, hj7, hj8, hj10, hj11, hj3, hk1, hk3, hk4, hk6, hk7, hk8, hk10, hk11])
    | (refine H_nil ?_; simp [intR_len, hj1, hj2, hj4, hj5, hj6, hj7, hj8, hj10, hj11, hj3, hk1, hk3, hk4, hk6, hk7, hk8, hk10, hk11])
    | (refine V_sseq ?_; simp [intR_len, hj1, hj2, hj4, hj5, hj6, hj7, hj8, hj10, hj11, hj3, hk1, hk3, hk4, hk6, hk7, hk8, hk10, hk11])
    | (refine V_sblock ?_; simp [intR_len, hj1, hj2, hj4, hj5, hj6, hj7, hj8, hj10, hj11, hj3, hk1, hk3, hk4, hk6, hk7, hk8, hk10, hk11])
    | fail)
  refine V_wk _ (Wk.own 7 3 1 (by decide) rfl) ?_
  simp [St.own]
  refine V_loopO (α := { s : Nat × List Nat // s.1 ≤ level.length ∧ s.2.Nodup ∧ ∀ i, i ∈ s.2 ↔ i < n ∧ i ∉ seen ∧ ∃ j ∈ level.take s.1, (i : Int) ∈ B.getD j [] }) [0, 2, 12, 13] (fun s => [(7, .vec (M + 16) s.1.2.length), (14, .u (.int .i64 s.1.1))])
    (fun s => [(M + 16, .vec 3 1 (intR (nats s.1.2))), (0, .box [.u (lists B), .vec 1 n, .vec 2 n]), (jl, .vec 3 1 (intR (nats level))), (js, .vec 4 1 (boolR (seenF n (seen ++ s.1.2))))]) (M + 17) (fun s => level.length - s.1.1) ⟨(0, []), by omega, by simp, by simp⟩ ?_ ?_
  · exact (Wk.cut rfl (by simp [hn, St.lp]) (by simp [wkO, St.lp, getK_cons, getK, Ob.under, D.under, under_rowsD, under_entD, intR, pure_intR, under_intR, pure_boolR, under_boolR, hj1, hj2, hj4, hj5, hj6, hj7, hj8, hj10, hj11, hj3, hk1, hk3, hk4, hk6, hk7, hk8, hk10, hk11]) (by simp [wkU, St.lp, keepE, getK_cons, getK, D.under, intR, pure_intR, under_intR, pure_boolR, under_boolR, hj1, hj2, hj4, hj5, hj6, hj7, hj8, hj10, hj11, hj3, hk1, hk3, hk4, hk6, hk7, hk8, hk10, hk11]) (by simp [wkE, St.lp, keepE, getK_cons, getK, intR, pure_intR, under_intR, pure_boolR, under_boolR, hj1, hj2, hj4, hj5, hj6, hj7, hj8, hj10, hj11, hj3, hk1, hk3, hk4, hk6, hk7, hk8, hk10, hk11] <;> (try (intros; simp_all; done)) <;> (try (intros; omega)) <;> (try grind)))
  rintro ⟨⟨k, O⟩, hk, hOd, hO⟩
  simp only at hk hOd hO
  simp [St.lp, St.only, keepE, getK_cons, getK]
  have hOl : O.length ≤ n := seen_len hOd fun i hi => ((hO i).1 hi).1
  rcases hx : level[k]? with _ | v
  · have hge : level.length ≤ k := by simpa using hx
    obtain rfl : k = level.length := by omega
    rw [List.take_length] at hO
    have hON : ∀ i, i ∈ O ↔ i ∈ nextR n B seen level := fun i => by rw [hO, mem_nextR]
    have hso := sort_next hOd hON
    have hsr := sort_ret 3 (M + 16) (M + 17) (by omega) (nats O) (by simp; omega)
    rw [hso] at hsr
    have hpl : O.length = (nextR n B seen level).length := by
      have := congrArg List.length hso
      simpa [sortS] using this
    have hsf : seenF n (seen ++ O) = seenF n (seen ++ nextR n B seen level) := by
      unfold seenF
      refine List.map_congr_left fun i _ => ?_
      simp [hON i]
    simp only [List.length_map] at hsr
    rw [hsf]
    repeat' (first
    | (refine H_cons ?_; simp [hx, intR_len, del, getK_append, hj1, hj2, hj4, hj5, hj6, hj7, hj8, hj10, hj11, hj3, hk1, hk3, hk4, hk6, hk7, hk8, hk10, hk11])
    | (refine H_nil ?_; simp [hx, intR_len, del, getK_append, hj1, hj2, hj4, hj5, hj6, hj7, hj8, hj10, hj11, hj3, hk1, hk3, hk4, hk6, hk7, hk8, hk10, hk11])
    | (refine V_sseq ?_; simp [hx, intR_len, del, getK_append, hj1, hj2, hj4, hj5, hj6, hj7, hj8, hj10, hj11, hj3, hk1, hk3, hk4, hk6, hk7, hk8, hk10, hk11])
    | (refine V_ret ?_; simp only [RK_seq, RK_seq_ret, RK_seq_exit, RK_blk, RK_blk_ret, RK_blk_exit, RK_loop, RK_loop_ret, RK_loop_exit, RK_done])
    | (refine V_exit ?_; simp [RK_seq, RK_seq_ret, RK_seq_exit, RK_blk, RK_blk_ret, RK_blk_exit, RK_loop, RK_loop_ret, RK_loop_exit, RK_done])
    | (refine CallP.ret1 (hsr) (by simp [getK]) (by rfl) (by first | assumption | simp) (by rfl) (by simp) ?_; rintro d o n' hn' ⟨rfl, rfl, rfl⟩; (try simp at hn'); (try simp [hx, intR_len, del, getK_append, hj1, hj2, hj4, hj5, hj6, hj7, hj8, hj10, hj11, hj3, hk1, hk3, hk4, hk6, hk7, hk8, hk10, hk11]))
    | fail)
    refine EndW.here ?_
    (first | (refine EndOK.fin (.inr rfl) ?_) | (refine EndOK.fin (.inl rfl) ?_)); simp [resD, oneOrTup, Try.results21]
    exact FinOK.here (by simp) ⟨by simp [hpl], rfl, by simp [del]⟩
  · have hlt : k < level.length := (List.getElem?_eq_some_iff.1 hx).1
    have hv := hlv v (List.mem_of_getElem? hx)
    obtain ⟨l, hl⟩ : ∃ l, B[v]? = some l := ⟨_, List.getElem?_eq_getElem (by omega)⟩
    obtain ⟨hll2, hlg⟩ := hBg l (List.mem_of_getElem? hl)
    have hgd : B.getD v [] = l := by simp [List.getD_eq_getElem?_getD, hl]
    have hxE : ∀ h : k < level.length, level[k]'h = v := fun h => (List.getElem?_eq_some_iff.1 hx).2
    repeat' (first
    | (refine H_cons ?_; simp [hxE, hlt, hl, intR_len, intR_getE, hj1, hj2, hj4, hj5, hj6, hj7, hj8, hj10, hj11, hj3, hk1, hk3, hk4, hk6, hk7, hk8, hk10, hk11])
    | (refine H_nil ?_; simp [hxE, hlt, hl, intR_len, intR_getE, hj1, hj2, hj4, hj5, hj6, hj7, hj8, hj10, hj11, hj3, hk1, hk3, hk4, hk6, hk7, hk8, hk10, hk11])
    | (refine V_sseq ?_; simp [hxE, hlt, hl, intR_len, intR_getE, hj1, hj2, hj4, hj5, hj6, hj7, hj8, hj10, hj11, hj3, hk1, hk3, hk4, hk6, hk7, hk8, hk10, hk11])
    | (refine V_sblock ?_; simp [hxE, hlt, hl, intR_len, intR_getE, hj1, hj2, hj4, hj5, hj6, hj7, hj8, hj10, hj11, hj3, hk1, hk3, hk4, hk6, hk7, hk8, hk10, hk11])
    | (refine V_skip ?_; simp only [RK_seq, RK_seq_ret, RK_seq_exit, RK_blk, RK_blk_ret, RK_blk_exit, RK_loop, RK_loop_ret, RK_loop_exit, RK_done])
    | fail)
    refine V_loopO (α := { s : Nat × List Nat // s.1 ≤ l.length ∧ s.2.Nodup ∧ ∀ i, i ∈ s.2 ↔ i < n ∧ i ∉ seen ∧ ((∃ j ∈ level.take k, (i : Int) ∈ B.getD j []) ∨ (i : Int) ∈ l.take s.1) }) [0, 2, 12, 13, 14, 24, 25] (fun s => [(7, .vec (M + 16) s.1.2.length), (26, .u (.int .i64 s.1.1))])
      (fun s => [(M + 16, .vec 3 1 (intR (nats s.1.2))), (0, .box [.u (lists B), .vec 1 n, .vec 2 n]), (jl, .vec 3 1 (intR (nats level))), (js, .vec 4 1 (boolR (seenF n (seen ++ s.1.2))))]) (M + 17) (fun s => l.length - s.1.1) ⟨(0, O), by omega, hOd, by simpa using hO⟩ ?_ ?_
    · exact (Wk.cut rfl (by simp [hn, St.lp]) (by simp [wkO, St.lp, getK_cons, getK, Ob.under, D.under, under_rowsD, under_entD, pure_intR, under_intR, pure_boolR, under_boolR, hj1, hj2, hj4, hj5, hj6, hj7, hj8, hj10, hj11, hj3, hk1, hk3, hk4, hk6, hk7, hk8, hk10, hk11]) (by simp [wkU, St.lp, keepE, getK_cons, getK, D.under, pure_intR, under_intR, pure_boolR, under_boolR, hj1, hj2, hj4, hj5, hj6, hj7, hj8, hj10, hj11, hj3, hk1, hk3, hk4, hk6, hk7, hk8, hk10, hk11]) (by simp [wkE, St.lp, keepE, getK_cons, getK, pure_intR, under_intR, pure_boolR, under_boolR, hj1, hj2, hj4, hj5, hj6, hj7, hj8, hj10, hj11, hj3, hk1, hk3, hk4, hk6, hk7, hk8, hk10, hk11] <;> (try (intros; simp_all; done)) <;> (try (intros; omega)) <;> (try grind)))
    rintro ⟨⟨j, Q⟩, hj, hQd, hQ⟩
    simp only at hj hQd hQ
    simp [St.lp, St.only, keepE, getK_cons, getK]
    have hQl : Q.length ≤ n := seen_len hQd fun i hi => ((hQ i).1 hi).1
    rcases hg : l[j]? with _ | g
    · have hge : l.length ≤ j := by simpa using hg
      obtain rfl : j = l.length := by omega
      rw [List.take_length] at hQ
      repeat' (first
    | (refine H_cons ?_; simp [hg, intR_len, hj1, hj2, hj4, hj5, hj6, hj7, hj8, hj10, hj11, hj3, hk1, hk3, hk4, hk6, hk7, hk8, hk10, hk11])
    | (refine H_nil ?_; simp [hg, intR_len, hj1, hj2, hj4, hj5, hj6, hj7, hj8, hj10, hj11, hj3, hk1, hk3, hk4, hk6, hk7, hk8, hk10, hk11])
    | (refine ⟨by omega, ?_⟩)
    | (refine V_sseq ?_; simp [hg, intR_len, hj1, hj2, hj4, hj5, hj6, hj7, hj8, hj10, hj11, hj3, hk1, hk3, hk4, hk6, hk7, hk8, hk10, hk11])
    | (refine V_sregion ?_; simp [hg, intR_len, hj1, hj2, hj4, hj5, hj6, hj7, hj8, hj10, hj11, hj3, hk1, hk3, hk4, hk6, hk7, hk8, hk10, hk11])
    | (refine V_exit ?_; simp [RK_seq, RK_seq_ret, RK_seq_exit, RK_blk, RK_blk_ret, RK_blk_exit, RK_loop, RK_loop_ret, RK_loop_exit, RK_done])
    | fail)
      refine LoopW.next ⟨(k + 1, Q), by simp only; omega, hQd, fun i => by rw [hQ, take_snoc hx]; simp [or_and_right, exists_or, hl]⟩ (by simp; omega) ?_
      exact (Wk.cut rfl (by simp [hn, St.lp]) (by simp [wkO, St.lp, getK_cons, getK, Ob.under, D.under, under_rowsD, under_entD, pure_intR, under_intR, pure_boolR, under_boolR, hj1, hj2, hj4, hj5, hj6, hj7, hj8, hj10, hj11, hj3, hk1, hk3, hk4, hk6, hk7, hk8, hk10, hk11]) (by simp [wkU, St.lp, keepE, getK_cons, getK, D.under, pure_intR, under_intR, pure_boolR, under_boolR, hj1, hj2, hj4, hj5, hj6, hj7, hj8, hj10, hj11, hj3, hk1, hk3, hk4, hk6, hk7, hk8, hk10, hk11]) (by simp [wkE, St.lp, keepE, getK_cons, getK, pure_intR, under_intR, pure_boolR, under_boolR, hj1, hj2, hj4, hj5, hj6, hj7, hj8, hj10, hj11, hj3, hk1, hk3, hk4, hk6, hk7, hk8, hk10, hk11] <;> (try (intros; simp_all; done)) <;> (try (intros; omega)) <;> (try grind)))
    · have hlj : j < l.length := (List.getElem?_eq_some_iff.1 hg).1
      obtain ⟨hg0, hgn⟩ := hlg g (List.mem_of_getElem? hg)
      obtain ⟨G, rfl⟩ := Int.eq_ofNat_of_zero_le hg0
      have hGn : G < n := by omega
      have hsg := seenF_get (seen ++ Q) hGn
      have htk := take_snoc hg
      by_cases hin : G ∈ seen ++ Q
      · have hsE : ∀ h : G < (seenF n (seen ++ Q)).length, (seenF n (seen ++ Q))[G]'h = true := fun h => by rw [seenF_getE]; simpa using hin
        repeat' (first
    | (refine H_cons ?_; simp [hg, intR_len, boolR_len, boolR_getE, seenF_len, hGn, hsE, hj1, hj2, hj4, hj5, hj6, hj7, hj8, hj10, hj11, hj3, hk1, hk3, hk4, hk6, hk7, hk8, hk10, hk11])
    | (refine H_nil ?_; simp [hg, intR_len, boolR_len, boolR_getE, seenF_len, hGn, hsE, hj1, hj2, hj4, hj5, hj6, hj7, hj8, hj10, hj11, hj3, hk1, hk3, hk4, hk6, hk7, hk8, hk10, hk11])
    | (refine ⟨by omega, ?_⟩)
    | (refine V_sseq ?_; simp [hg, intR_len, boolR_len, boolR_getE, seenF_len, hGn, hsE, hj1, hj2, hj4, hj5, hj6, hj7, hj8, hj10, hj11, hj3, hk1, hk3, hk4, hk6, hk7, hk8, hk10, hk11])
    | (refine V_scond ?_; simp [hg, intR_len, boolR_len, boolR_getE, seenF_len, hGn, hsE, hj1, hj2, hj4, hj5, hj6, hj7, hj8, hj10, hj11, hj3, hk1, hk3, hk4, hk6, hk7, hk8, hk10, hk11])
    | (refine V_sregion ?_; simp [hg, intR_len, boolR_len, boolR_getE, seenF_len, hGn, hsE, hj1, hj2, hj4, hj5, hj6, hj7, hj8, hj10, hj11, hj3, hk1, hk3, hk4, hk6, hk7, hk8, hk10, hk11])
    | (refine V_skip ?_; simp only [RK_seq, RK_seq_ret, RK_seq_exit, RK_blk, RK_blk_ret, RK_blk_exit, RK_loop, RK_loop_ret, RK_loop_exit, RK_done])
    | (refine ⟨?_, by omega⟩)
    | (intro hc <;> (try (exfalso; omega)))
    | fail)
        refine LoopW.next ⟨(j + 1, Q), by simp only; omega, hQd, fun i => ?_⟩ (by simp; omega) ?_
        · rw [hQ, htk]
          simp only [List.mem_append, List.mem_singleton, Int.natCast_inj]
          constructor
          · rintro ⟨a1, a2, a3 | a3⟩
            · exact ⟨a1, a2, .inl a3⟩
            · exact ⟨a1, a2, .inr (.inl a3)⟩
          · rintro ⟨a1, a2, a3 | a3 | rfl⟩
            · exact ⟨a1, a2, .inl a3⟩
            · exact ⟨a1, a2, .inr a3⟩
            · exact (hQ i).1 ((List.mem_append.1 hin).elim (fun h => absurd h a2) id)
        · exact (Wk.cut rfl (by simp [hn, St.lp]) (by simp [wkO, St.lp, getK_cons, getK, Ob.under, D.under, under_rowsD, under_entD, pure_intR, under_intR, pure_boolR, under_boolR, hj1, hj2, hj4, hj5, hj6, hj7, hj8, hj10, hj11, hj3, hk1, hk3, hk4, hk6, hk7, hk8, hk10, hk11]) (by simp [wkU, St.lp, keepE, getK_cons, getK, D.under, pure_intR, under_intR, pure_boolR, under_boolR, hj1, hj2, hj4, hj5, hj6, hj7, hj8, hj10, hj11, hj3, hk1, hk3, hk4, hk6, hk7, hk8, hk10, hk11]) (by simp [wkE, St.lp, keepE, getK_cons, getK, pure_intR, under_intR, pure_boolR, under_boolR, hj1, hj2, hj4, hj5, hj6, hj7, hj8, hj10, hj11, hj3, hk1, hk3, hk4, hk6, hk7, hk8, hk10, hk11] <;> (try (intros; simp_all; done)) <;> (try (intros; omega)) <;> (try grind)))
      · have hsE : ∀ h : G < (seenF n (seen ++ Q)).length, (seenF n (seen ++ Q))[G]'h = false := fun h => by rw [seenF_getE]; simpa using hin
        have hst := seenF_set n (seen ++ Q) G
        rw [List.append_assoc] at hst
        have hap : intR (nats Q) ++ [[D.u (.int .i64 (G : Int))]] = intR (nats (Q ++ [G])) := by simp [intR]
        have hlr : lenR 1 (intR (nats Q)) := by simp [intR]
        have hnin : G ∉ seen ∧ G ∉ Q := by simpa using hin
        repeat' (first
    | (refine H_cons ?_; simp [hg, intR_len, boolR_len, boolR_getE, boolR_set, seenF_len, hGn, hsE, hst, hap, hlr, hj1, hj2, hj4, hj5, hj6, hj7, hj8, hj10, hj11, hj3, hk1, hk3, hk4, hk6, hk7, hk8, hk10, hk11])
    | (refine H_nil ?_; simp [hg, intR_len, boolR_len, boolR_getE, boolR_set, seenF_len, hGn, hsE, hst, hap, hlr, hj1, hj2, hj4, hj5, hj6, hj7, hj8, hj10, hj11, hj3, hk1, hk3, hk4, hk6, hk7, hk8, hk10, hk11])
    | (refine ⟨by omega, ?_⟩)
    | (refine V_sseq ?_; simp [hg, intR_len, boolR_len, boolR_getE, boolR_set, seenF_len, hGn, hsE, hst, hap, hlr, hj1, hj2, hj4, hj5, hj6, hj7, hj8, hj10, hj11, hj3, hk1, hk3, hk4, hk6, hk7, hk8, hk10, hk11])
    | (refine V_scond ?_; simp [hg, intR_len, boolR_len, boolR_getE, boolR_set, seenF_len, hGn, hsE, hst, hap, hlr, hj1, hj2, hj4, hj5, hj6, hj7, hj8, hj10, hj11, hj3, hk1, hk3, hk4, hk6, hk7, hk8, hk10, hk11])
    | (refine V_sregion ?_; simp [hg, intR_len, boolR_len, boolR_getE, boolR_set, seenF_len, hGn, hsE, hst, hap, hlr, hj1, hj2, hj4, hj5, hj6, hj7, hj8, hj10, hj11, hj3, hk1, hk3, hk4, hk6, hk7, hk8, hk10, hk11])
    | (refine V_skip ?_; simp only [RK_seq, RK_seq_ret, RK_seq_exit, RK_blk, RK_blk_ret, RK_blk_exit, RK_loop, RK_loop_ret, RK_loop_exit, RK_done])
    | (refine ⟨?_, by omega⟩)
    | (intro hc <;> (try (exfalso; omega)))
    | fail)
        refine LoopW.next ⟨(j + 1, Q ++ [G]), by simp only; omega, ?_, fun i => ?_⟩ (by simp; omega) ?_
        · exact List.nodup_append.2 ⟨hQd, by simp, fun a ha b hb e => by simp at hb; subst hb; exact hnin.2 (e ▸ ha)⟩
        · rw [htk]
          simp only [List.mem_append, List.mem_singleton, Int.natCast_inj]
          rw [hQ]
          constructor
          · rintro (⟨a1, a2, a3 | a3⟩ | rfl)
            · exact ⟨a1, a2, .inl a3⟩
            · exact ⟨a1, a2, .inr (.inl a3)⟩
            · exact ⟨hGn, hnin.1, .inr (.inr rfl)⟩
          · rintro ⟨a1, a2, a3 | a3 | rfl⟩
            · exact .inl ⟨a1, a2, .inl a3⟩
            · exact .inl ⟨a1, a2, .inr a3⟩
            · exact .inr rfl
        · exact (Wk.ren1 (M + 16) (M + 18) rfl (by simp [hn]) (by simp [hn]) (by simp [pure_intR, under_intR, pure_boolR, under_boolR, hj1, hj2, hj4, hj5, hj6, hj7, hj8, hj10, hj11, hj3, hk1, hk3, hk4, hk6, hk7, hk8, hk10, hk11]) (by simp [wkER, rho1, St.lp, keepE, getK_cons, getK, getK_del, getK_setOb, D.under, D.le, D.ren, pure_intR, under_intR, pure_boolR, under_boolR, hj1, hj2, hj4, hj5, hj6, hj7, hj8, hj10, hj11, hj3, hk1, hk3, hk4, hk6, hk7, hk8, hk10, hk11] <;> (try (intros; simp_all; done)) <;> (try omega)) (by simp [wkR, wkR_tail1, endsIn_here, endsIn_cons, del_cons, del_fam, rho1, St.lp, getK_cons, getK, getK_del, getK_setOb, obR, leU, pureRow, pureRows, Ob.under, D.under, D.le, D.ren, pure_intR, under_intR, pure_boolR, under_boolR, hj1, hj2, hj4, hj5, hj6, hj7, hj8, hj10, hj11, hj3, hk1, hk3, hk4, hk6, hk7, hk8, hk10, hk11] <;> (try (intros; simp_all; done)) <;> (try omega)))
end Go.Proofs.Ytjmddlekokodfaa
