/- Layer 26: heights, sums of the lesser ones: the walks. -/
import Derived.Test.YtjmddlekokodfaaBa
set_option linter.all false
set_option maxRecDepth 100000
set_option maxHeartbeats 8000000
set_option linter.all false
namespace Go.Proofs.Ytjmddlekokodfaa
open Go Go.VL
theorem sortS_sorted (l : List Int) : (sortS l).Pairwise (· ≤ ·) := by
  have := List.pairwise_mergeSort (le := fun (x y : Int) => decide (x ≤ y)) (fun a b c h1 h2 => by simp at *; omega) (fun a b => by simp; omega) l
  simpa [sortS] using this
theorem sortS_perm (l : List Int) : (sortS l).Perm l := List.mergeSort_perm l _
def ins (x : Int) : List Int → List Int
  | [] => [x]
  | y :: l => if x ≤ y then x :: y :: l else y :: ins x l
def isort : List Int → List Int
  | [] => []
  | x :: l => ins x (isort l)
theorem ins_perm (x : Int) : ∀ l, (ins x l).Perm (x :: l)
  | [] => .refl _
  | y :: l => by
    unfold ins
    split
    · exact .refl _
    · exact ((ins_perm x l).cons y).trans (.swap x y l)
theorem isort_perm : ∀ l, (isort l).Perm l
  | [] => .refl _
  | x :: l => (ins_perm x _).trans ((isort_perm l).cons x)
theorem ins_sorted (x : Int) : ∀ l : List Int, l.Pairwise (· ≤ ·) → (ins x l).Pairwise (· ≤ ·)
  | [], _ => by simp [ins]
  | y :: l, h => by
    obtain ⟨h1, h2⟩ := List.pairwise_cons.1 h
    unfold ins
    split
    · rename_i hxy
      exact List.pairwise_cons.2 ⟨fun z hz => (List.mem_cons.1 hz).elim (fun e => e ▸ hxy) (fun hz => Int.le_trans hxy (h1 z hz)), h⟩
    · rename_i hxy
      refine List.pairwise_cons.2 ⟨fun z hz => ?_, ins_sorted x l h2⟩
      rcases List.mem_cons.1 ((ins_perm x l).mem_iff.1 hz) with rfl | hz
      · omega
      · exact h1 z hz
theorem isort_sorted : ∀ l, (isort l).Pairwise (· ≤ ·)
  | [] => by simp [isort]
  | x :: l => ins_sorted x _ (isort_sorted l)
theorem sortS_isort (l : List Int) : sortS l = isort l :=
  List.Perm.eq_of_pairwise (le := fun a b : Int => a ≤ b) (fun a b _ _ h1 h2 => by omega) (sortS_sorted _) (isort_sorted _) ((sortS_perm l).trans (isort_perm l).symm)
def hgt (vs : List Int) (a : Int) : Int := heightP (isort vs) a
theorem hgt_ok {vs : List Int} {a : Int} (hv : ∀ v ∈ vs, 0 ≤ v ∧ v ≤ maxC) (ha : 0 ≤ a) : IsH vs a (hgt vs a) := by
  obtain ⟨h1, h2, h3, h4⟩ := heightP_ok (isort vs) a 0 (isort_sorted vs) (fun v h => hv v ((isort_perm vs).mem_iff.1 h)) (by omega) (by omega) (by simp [maxC]) ha
  rw [below_perm (isort_perm vs)] at h3
  rw [below_perm (isort_perm vs)] at h4
  exact ⟨h1, h2, h3, h4⟩
attribute [local simp] hcons hstep evPure opd uOf putOK St.put St.at getK binD binI binS binB nilD aggD eqUs cmpK lookD lookR rangeD nextD entryD keyD valU keyU lookK mkV entD_nil lookK_entD updK_entD1 updK_entD2 updK_entD3 allUE allUE_entD makeMapD mapUpdD mapEff updK valM Key.kk shiftI arith unD convD pickD loadD cellsAt fieldAddrD fieldD indexAddrD indexD sliceD cutD lenD minmaxD nilCheckD buildD fillD cellsD isOne ones setAll mkAgg allU allocD boxD storeD St.add buildSliceD appendD rowsOf makeD setOb getK_setOb getK_del getK_cons stripL strip guardTmp entry chunks zcells valD argsV argsW argW argU1 argU0 argsU0 argsU1 calleeOf scalarD scalarU delAll effD St.effS RK_seq RK_seq_ret RK_seq_exit RK_blk RK_blk_ret RK_blk_exit RK_loop RK_loop_ret RK_loop_exit RK_done vs_seq vs_block vs_skip vs_label vs_exit vs_ret vs_cond vs_region vs_loop vs_draw vs_range vs_scope applyW mkD rdIds lentIds callOf calleeOf freeOp D.ids Op.operands Call.operands isEffOp IntKind.bits allU2 allU2_append List.take_of_length_le List.range_succ
attribute [local irreducible] V G H HD HD2 RunK Eff CallP CallV EndOK Fun Ret FinOK LoopI LoopW EndW
theorem values_ret (nx : Nat) (zs : List Int) : Ret Try.prog 33 [.u (ints zs)] [] nx fun d obs nx' => d = .fnc (.func 46) [.ptr nx 0] ∧ obs = [(nx, .box [.u (ints zs)])] ∧ nx' = nx + 1 := by
  (refine Ret.of_body Try.func33 rfl (by simp) fun Γ hn => ?_); simp only [entry, List.zipIdx_cons, List.zipIdx_nil, List.map_cons, List.map_nil, Nat.zero_add, Try.ntmps33]
  repeat' (first
    | (refine H_cons ?_; simp)
    | (refine H_nil ?_; simp)
    | (refine V_sseq ?_; simp)
    | (refine V_ret ?_; simp only [RK_seq, RK_seq_ret, RK_seq_exit, RK_blk, RK_blk_ret, RK_blk_exit, RK_loop, RK_loop_ret, RK_loop_exit, RK_done])
    | fail)
  (first | (refine EndOK.fin (.inr rfl) ?_) | (refine EndOK.fin (.inl rfl) ?_)); simp [resD, oneOrTup, Try.results33]
  exact FinOK.here (by simp) ⟨rfl, rfl, rfl⟩
theorem sorted_ret (j nx : Nat) (hj : j < nx) (zs : List Int) (hz : zs.length ≤ 1099511627776) : Ret Try.prog 32 [.fnc (.func 46) [.ptr j 0]] [(j, .box [.u (ints zs)])] nx
    fun d obs nx' => d = .vec nx zs.length ∧ obs = [(j, .box [.u (ints zs)]), (nx, .vec 3 1 (intR (sortS zs)))] ∧ nx' = nx + 1 := by
  (refine Ret.of_body Try.func32 rfl (by simp) fun Γ hn => ?_); simp only [entry, List.zipIdx_cons, List.zipIdx_nil, List.map_cons, List.map_nil, Nat.zero_add, Try.ntmps32]
  repeat' (first
    | (refine H_cons ?_; simp)
    | (refine H_nil ?_; simp)
    | (refine V_sseq ?_; simp)
    | (refine V_ret ?_; simp only [RK_seq, RK_seq_ret, RK_seq_exit, RK_blk, RK_blk_ret, RK_blk_exit, RK_loop, RK_loop_ret, RK_loop_exit, RK_done])
    | (refine CallP.ret_ (collect_ret j nx hj zs hz) (by rfl) (by first | assumption | simp) (by rfl) (by simp) ?_; rintro d o n' hn' ⟨rfl, rfl, rfl⟩; (try simp at hn'); (try simp))
    | (refine CallP.ret1 (sort_ret 3 nx (nx + 1) (by omega) zs hz) (by simp [getK]) (by rfl) (by first | assumption | simp) (by rfl) (by simp) ?_; rintro d o n' hn' ⟨rfl, rfl, rfl⟩; (try simp at hn'); (try simp))
    | fail)
  (first | (refine EndOK.fin (.inr rfl) ?_) | (refine EndOK.fin (.inl rfl) ?_)); simp [resD, oneOrTup, Try.results32]
  exact FinOK.here (by simp) ⟨rfl, by simp [del, show ¬ j = nx by omega], rfl⟩
theorem intR_len (l : List Int) : (intR l).length = l.length := by simp [intR]
theorem intR_getE (l : List Int) (i : Nat) (h : i < (intR l).length) : (intR l)[i] = [D.u (.int .i64 (l[i]'(by simpa [intR] using h)))] := by simp [intR]
theorem intR_set (l : List Int) (i : Nat) (z : Int) : (intR l).set i [D.u (.int .i64 z)] = intR (l.set i z) := by simp [intR, List.map_set]
theorem intR_take (l : List Int) (i : Nat) : (intR l).take i = intR (l.take i) := by simp [intR, List.map_take]
theorem intR_all (l : List Int) : allU2 (intR l) = some (l.map fun z => [U.int .i64 z]) := by rw [← intR_rows]; simp
theorem intR_rep (n : Nat) : List.replicate n [D.u (.int .i64 0)] = intR (List.replicate n 0) := by simp [intR]
theorem pure_intR (l : List Int) : pureRows (intR l) := by
  induction l with
  | nil => simp [intR, pureRows]
  | cons a l ih => simp only [intR] at ih; simp [intR, pureRows, pureRow, ih]
theorem under_intR (n : Nat) (l : List Int) : (∀ x ∈ intR l, ∀ y ∈ x, D.under n y = true) ↔ True := by simp [intR, D.under]
theorem height_fun (vs : List Int) (a : Int) (hl : vs.length ≤ 1000000) (hv : ∀ v ∈ vs, 0 ≤ v ∧ v ≤ maxC) (ha : 0 ≤ a) (ha2 : a ≤ maxC) : Fun Try.prog 27 [.u (ints vs), .u (.int .i64 a)] (· = .u (.int .i64 (hgt vs a))) := by
  have hsl : (sortS vs).length = vs.length := by simp [sortS]
  have hsv : ∀ v ∈ sortS vs, 0 ≤ v ∧ v ≤ maxC := fun v h => hv v ((sortS_perm vs).mem_iff.1 h)
  simp only [maxC] at ha2 hsv
  unfold hgt
  rw [← sortS_isort]
  (refine Fun.of_body Try.func27 rfl (by simp) fun Γ hn => ?_); simp only [entry, List.zipIdx_cons, List.zipIdx_nil, List.map_cons, List.map_nil, Nat.zero_add, Try.ntmps27]
  repeat' (first
    | (refine H_cons ?_; simp [del, getK_append, intR_len, hsl])
    | (refine H_nil ?_; simp [del, getK_append, intR_len, hsl])
    | (refine V_sseq ?_; simp [del, getK_append, intR_len, hsl])
    | (refine V_sblock ?_; simp [del, getK_append, intR_len, hsl])
    | (refine CallP.ret_ (values_ret 0 vs) (by rfl) (by first | assumption | simp) (by rfl) (by simp) ?_; rintro d o n' hn' ⟨rfl, rfl, rfl⟩; (try simp at hn'); (try simp [del, getK_append, intR_len, hsl]))
    | (refine CallP.ret_ (sorted_ret 0 1 (by omega) vs (by omega)) (by rfl) (by first | assumption | simp) (by rfl) (by simp) ?_; rintro d o n' hn' ⟨rfl, rfl, rfl⟩; (try simp at hn'); (try simp [del, getK_append, intR_len, hsl]))
    | fail)
  generalize sortS vs = zs at hsl hsv
  generalize hR : heightP zs a = R
  refine V_loopO (α := { s : Nat × Int // s.1 ≤ vs.length ∧ R = heightP (zs.drop s.1) s.2 ∧ 0 ≤ s.2 ∧ s.2 ≤ 1099511627776 }) [0, 10, 11] (fun s => [(1, .u (.int .i64 s.1.2)), (12, .u (.int .i64 s.1.1))]) (fun s => [(1, .vec 3 1 (intR zs))]) 2 (fun s => vs.length - s.1.1) ⟨(0, a), by omega, hR.symm, ha, ha2⟩ ?_ ?_
  · exact (Wk.cut rfl (by simp [hn, St.lp]) (by simp [wkO, St.lp, getK_cons, getK, Ob.under, D.under, under_rowsD, under_entD, intR_len, hsl, pure_intR, under_intR]) (by simp [wkU, St.lp, keepE, getK_cons, getK, D.under, intR_len, hsl, pure_intR, under_intR]) (by simp [wkE, St.lp, keepE, getK_cons, getK, intR_len, hsl, pure_intR, under_intR] <;> (try (intros; simp_all; done)) <;> (try (intros; omega)) <;> (try grind)))
  rintro ⟨⟨i, b⟩, hi, he, hb0, hb1⟩
  simp only at hi he hb0 hb1
  simp [St.lp, St.only, keepE, getK_cons, getK]
  rcases hx : zs[i]? with _ | m
  · have hge : zs.length ≤ i := by simpa using hx
    obtain rfl : i = vs.length := by omega
    rw [List.drop_of_length_le (by omega)] at he
    repeat' (first
    | (refine H_cons ?_; simp [intR_len, hsl])
    | (refine H_nil ?_; simp [intR_len, hsl])
    | (refine V_sseq ?_; simp [intR_len, hsl])
    | (refine V_ret ?_; simp only [RK_seq, RK_seq_ret, RK_seq_exit, RK_blk, RK_blk_ret, RK_blk_exit, RK_loop, RK_loop_ret, RK_loop_exit, RK_done])
    | (refine V_exit ?_; simp [RK_seq, RK_seq_ret, RK_seq_exit, RK_blk, RK_blk_ret, RK_blk_exit, RK_loop, RK_loop_ret, RK_loop_exit, RK_done])
    | fail)
    (refine EndOK.val (.inr rfl) ?_; simp [resD, oneOrTup, pureD, Try.results27])
    rw [he]
    rfl
  · have hlt : i < zs.length := (List.getElem?_eq_some_iff.1 hx).1
    have hlt2 : i < vs.length := by omega
    have hxE : ∀ h : i < zs.length, zs[i]'h = m := fun h => (List.getElem?_eq_some_iff.1 hx).2
    have hm := hsv m (List.mem_of_getElem? hx)
    have hdr : zs.drop i = m :: zs.drop (i + 1) := by rw [List.drop_eq_getElem_cons hlt, hxE]
    rw [hdr, heightP] at he
    have hnl : (((zs.drop (i + 1)).length : Int) + 1) = (vs.length : Int) - i := by rw [List.length_drop]; omega
    rw [hnl] at he
    have hq : b.tdiv ((vs.length : Int) - i) = b / ((vs.length : Int) - i) := Int.tdiv_eq_ediv_of_nonneg hb0
    have hn1 : ¬ (vs.length : Int) - i = 0 := by omega
    have hq0 : 0 ≤ b / ((vs.length : Int) - i) := Int.ediv_nonneg hb0 (by omega)
    have hq1 : b / ((vs.length : Int) - i) ≤ b := Int.ediv_le_self _ hb0
    generalize b / ((vs.length : Int) - i) = q at he hq hq0 hq1
    by_cases hc : q < m
    · rw [if_pos hc] at he
      repeat' (first
    | (refine H_cons ?_; simp [intR_len, intR_getE, hsl, hlt2, hxE, hq, hn1, hc])
    | (refine H_nil ?_; simp [intR_len, intR_getE, hsl, hlt2, hxE, hq, hn1, hc])
    | (refine ⟨by omega, ?_⟩)
    | (refine V_sseq ?_; simp [intR_len, intR_getE, hsl, hlt2, hxE, hq, hn1, hc])
    | (refine V_scond ?_; simp [intR_len, intR_getE, hsl, hlt2, hxE, hq, hn1, hc])
    | (refine V_ret ?_; simp only [RK_seq, RK_seq_ret, RK_seq_exit, RK_blk, RK_blk_ret, RK_blk_exit, RK_loop, RK_loop_ret, RK_loop_exit, RK_done])
    | (refine V_skip ?_; simp only [RK_seq, RK_seq_ret, RK_seq_exit, RK_blk, RK_blk_ret, RK_blk_exit, RK_loop, RK_loop_ret, RK_loop_exit, RK_done])
    | fail)
      (refine EndOK.val (.inr rfl) ?_; simp [resD, oneOrTup, pureD, Try.results27])
      exact he.symm
    · rw [if_neg hc] at he
      repeat' (first
    | (refine H_cons ?_; simp [intR_len, intR_getE, hsl, hlt2, hxE, hq, hn1, hc])
    | (refine H_nil ?_; simp [intR_len, intR_getE, hsl, hlt2, hxE, hq, hn1, hc])
    | (refine ⟨by omega, ?_⟩)
    | (refine V_sseq ?_; simp [intR_len, intR_getE, hsl, hlt2, hxE, hq, hn1, hc])
    | (refine V_scond ?_; simp [intR_len, intR_getE, hsl, hlt2, hxE, hq, hn1, hc])
    | (refine V_sregion ?_; simp [intR_len, intR_getE, hsl, hlt2, hxE, hq, hn1, hc])
    | (refine V_skip ?_; simp only [RK_seq, RK_seq_ret, RK_seq_exit, RK_blk, RK_blk_ret, RK_blk_exit, RK_loop, RK_loop_ret, RK_loop_exit, RK_done])
    | fail)
      refine LoopW.next ⟨(i + 1, b - m), by simp only; omega, he, by simp only; omega, by simp only; omega⟩ (by simp; omega) ?_
      exact (Wk.cut rfl (by simp [hn, St.lp]) (by simp [wkO, St.lp, getK_cons, getK, Ob.under, D.under, under_rowsD, under_entD, pure_intR, under_intR]) (by simp [wkU, St.lp, keepE, getK_cons, getK, D.under, pure_intR, under_intR]) (by simp [wkE, St.lp, keepE, getK_cons, getK, pure_intR, under_intR] <;> (try (intros; simp_all; done)) <;> (try (intros; omega)) <;> (try grind)))
theorem pure_map (l : List Int) : pureRows (l.map fun z => [D.u (.int .i64 z)]) = True := eq_true (pure_intR l)
/-- Clone: a slice of the call's own, under the next number. -/
theorem clone_ret (l : List Int) (nx : Nat) (hl : l.length ≤ 1000000) : Ret Try.prog 20 [.u (ints l)] [] nx
    (fun d o n' => d = .vec nx l.length ∧ o = [(nx, .vec 3 1 (intR l))] ∧ n' = nx + 1) := by
  cases l with
  | nil =>
    (refine Ret.of_bodyW Try.func20 rfl (by simp) fun Γ hn => ?_); simp only [entry, List.zipIdx_cons, List.zipIdx_nil, List.map_cons, List.map_nil, Nat.zero_add, Try.ntmps20]
    simp only [ints, List.map_nil]
    refine V_nilsplit (x := 0) rfl ?_ (fun a cp => ?_)
    · repeat' (first
    | (refine H_cons ?_; simp)
    | (refine H_nil ?_; simp)
    | (refine V_sseq ?_; simp)
    | (refine V_scond ?_; simp)
    | (refine V_ret ?_; simp only [RK_seq, RK_seq_ret, RK_seq_exit, RK_blk, RK_blk_ret, RK_blk_exit, RK_loop, RK_loop_ret, RK_loop_exit, RK_done])
    | fail)
      refine EndW.wk _ (Wk.own 2 3 1 (by omega) rfl) (EndW.here ?_)
      (first | (refine EndOK.fin (.inr rfl) ?_) | (refine EndOK.fin (.inl rfl) ?_)); simp [resD, oneOrTup, Try.results20]
      exact FinOK.here (by simp [St.own]) ⟨by simp [St.own], by simp [St.own, intR], by simp [St.own]⟩
    · repeat' (first
    | (refine H_cons ?_; simp)
    | (refine H_nil ?_; simp)
    | (refine V_sseq ?_; simp)
    | (refine V_scond ?_; simp)
    | (refine V_ret ?_; simp only [RK_seq, RK_seq_ret, RK_seq_exit, RK_blk, RK_blk_ret, RK_blk_exit, RK_loop, RK_loop_ret, RK_loop_exit, RK_done])
    | (refine V_skip ?_; simp only [RK_seq, RK_seq_ret, RK_seq_exit, RK_blk, RK_blk_ret, RK_blk_exit, RK_loop, RK_loop_ret, RK_loop_exit, RK_done])
    | fail)
      refine EndW.wk { n := Try.f20.ntmps, env := [(2, .vec nx 0)], obs := [(nx, .vec 3 1 [])], next := nx + 1 } (Wk.ren1 (nx) (nx + 1) rfl (by simp [hn]) (by simp [hn]) (by simp) (by simp [wkER, rho1, St.lp, keepE, getK_cons, getK, getK_del, getK_setOb, D.under, D.le, D.ren] <;> (try (intros; simp_all; done)) <;> (try omega)) (by simp [wkR, wkR_tail1, endsIn_here, endsIn_cons, del_cons, del_fam, rho1, St.lp, getK_cons, getK, getK_del, getK_setOb, obR, leU, pureRow, pureRows, Ob.under, D.under, D.le, D.ren] <;> (try (intros; simp_all; done)) <;> (try omega))) (EndW.here ?_)
      (first | (refine EndOK.fin (.inr rfl) ?_) | (refine EndOK.fin (.inl rfl) ?_)); simp [resD, oneOrTup, Try.results20]
      exact FinOK.here (by simp) ⟨rfl, by simp [intR], rfl⟩
  | cons x l =>
    simp only [List.length_cons] at hl
    (refine Ret.of_bodyW Try.func20 rfl (by simp) fun Γ hn => ?_); simp only [entry, List.zipIdx_cons, List.zipIdx_nil, List.map_cons, List.map_nil, Nat.zero_add, Try.ntmps20]
    simp only [ints, List.map_cons]
    repeat' (first
    | (refine H_cons ?_; simp)
    | (refine H_nil ?_; simp)
    | (refine ⟨by omega, ?_⟩)
    | (refine V_sseq ?_; simp)
    | (refine V_scond ?_; simp)
    | (refine V_ret ?_; simp only [RK_seq, RK_seq_ret, RK_seq_exit, RK_blk, RK_blk_ret, RK_blk_exit, RK_loop, RK_loop_ret, RK_loop_exit, RK_done])
    | (refine V_skip ?_; simp only [RK_seq, RK_seq_ret, RK_seq_exit, RK_blk, RK_blk_ret, RK_blk_exit, RK_loop, RK_loop_ret, RK_loop_exit, RK_done])
    | fail)
    refine EndW.wk { n := Try.f20.ntmps, env := [(2, .vec nx (l.length + 1))], obs := [(nx, .vec 3 1 (intR (x :: l)))], next := nx + 1 } (Wk.ren1 (nx) (nx + 1) rfl (by simp [hn]) (by simp [hn]) (by simp [intR, rowsD, pure_map]) (by simp [wkER, rho1, St.lp, keepE, getK_cons, getK, getK_del, getK_setOb, D.under, D.le, D.ren, intR, rowsD, pure_map] <;> (try (intros; simp_all; done)) <;> (try omega)) (by simp [wkR, wkR_tail1, endsIn_here, endsIn_cons, del_cons, del_fam, rho1, St.lp, getK_cons, getK, getK_del, getK_setOb, obR, leU, pureRow, pureRows, Ob.under, D.under, D.le, D.ren, intR, rowsD, pure_map] <;> (try (intros; simp_all; done)) <;> (try omega))) (EndW.here ?_)
    (first | (refine EndOK.fin (.inr rfl) ?_) | (refine EndOK.fin (.inl rfl) ?_)); simp [resD, oneOrTup, Try.results20]
    exact FinOK.here (by simp) ⟨rfl, rfl, rfl⟩
/-- The means of a level's members. -/
def meansOf (means : List Int) (level : List Nat) : List Int := level.map fun i => means.getD i 0
theorem below_fun (level : List Nat) (means : List Int) (h : Int) (hl : level.length ≤ 1000) (hlv : ∀ i ∈ level, i < means.length) (hv : ∀ v ∈ means, 0 ≤ v ∧ v ≤ maxC) (h0 : 0 ≤ h) (h1 : h ≤ maxC) : Fun Try.prog 29 [.u (ints (level.map Int.ofNat)), .u (ints means), .u (.int .i64 h)]
    (· = .u (.int .i64 (below (meansOf means level) h))) := by
  simp only [maxC] at hv h1
  (refine Fun.of_body Try.func29 rfl (by simp) fun Γ hn => ?_); simp only [entry, List.zipIdx_cons, List.zipIdx_nil, List.map_cons, List.map_nil, Nat.zero_add, Try.ntmps29]
  repeat' (first
    | (refine H_cons ?_; simp)
    | (refine H_nil ?_; simp)
    | (refine V_sseq ?_; simp)
    | (refine V_sblock ?_; simp)
    | fail)
  refine V_loopF (α := { i : Nat // i ≤ level.length }) [0, 1, 2] (fun i => [(7, .u (.int .i64 (below (meansOf means (level.take i.1)) h))), (8, .u (.int .i64 i.1))]) (fun i => level.length - i.1) ⟨0, by omega⟩ ?_ ?_
  · exact (Wk.cut rfl (by simp [hn, St.lp]) (by simp [wkO, St.lp, getK_cons, getK, Ob.under, D.under, under_rowsD, under_entD, below, meansOf]) (by simp [wkU, St.lp, keepE, getK_cons, getK, D.under, below, meansOf]) (by simp [wkE, St.lp, keepE, getK_cons, getK, below, meansOf] <;> (try (intros; simp_all; done)) <;> (try (intros; omega)) <;> (try grind)))
  rintro ⟨i, hi⟩
  simp [St.lp, St.only, keepE, getK_cons, getK]
  have hmv : ∀ k, ∀ v ∈ meansOf means (level.take k), 0 ≤ v ∧ v ≤ 1099511627776 := fun k v hm => by
    obtain ⟨j, hj, rfl⟩ := List.mem_map.1 hm
    have hj := hlv j (List.mem_of_mem_take hj)
    refine hv _ ?_
    simp [List.getD_eq_getElem?_getD, hj]
  have hb0 := below_nonneg (fun v h => (hmv i v h).1) h0
  have hb1 := below_le_sum (vs := meansOf means (level.take i)) (h := h)
  have hb2 := sum_le (fun v h => (hmv i v h).2)
  have hb3 : (meansOf means (level.take i)).length ≤ 1000 := by simp [meansOf]; omega
  rcases hx : level[i]? with _ | g
  · have hge : level.length ≤ i := by simpa using hx
    obtain rfl : i = level.length := by omega
    rw [List.take_length]
    repeat' (first
    | (refine H_cons ?_; simp [hx])
    | (refine H_nil ?_; simp [hx])
    | (refine V_sseq ?_; simp [hx])
    | (refine V_scond ?_; simp [hx])
    | (refine V_ret ?_; simp only [RK_seq, RK_seq_ret, RK_seq_exit, RK_blk, RK_blk_ret, RK_blk_exit, RK_loop, RK_loop_ret, RK_loop_exit, RK_done])
    | (refine V_exit ?_; simp [RK_seq, RK_seq_ret, RK_seq_exit, RK_blk, RK_blk_ret, RK_blk_exit, RK_loop, RK_loop_ret, RK_loop_exit, RK_done])
    | fail)
    (refine EndOK.val (.inr rfl) ?_; simp [resD, oneOrTup, pureD, Try.results29])
  · have hlt : i < level.length := (List.getElem?_eq_some_iff.1 hx).1
    have hg := hlv g (List.mem_of_getElem? hx)
    obtain ⟨v, hgv⟩ : ∃ v, means[g]? = some v := ⟨_, List.getElem?_eq_getElem hg⟩
    have hvr := hv v (List.mem_of_getElem? hgv)
    have hsn : below (meansOf means (level.take (i + 1))) h = below (meansOf means (level.take i)) h + min v h := by
      have : meansOf means (level.take (i + 1)) = meansOf means (level.take i) ++ [v] := by
        rw [take_snoc hx]
        simp [meansOf, List.getD_eq_getElem?_getD, hgv]
      rw [this, below_snoc]
    repeat' (first
    | (refine H_cons ?_; simp [hx, hgv])
    | (refine H_nil ?_; simp [hx, hgv])
    | (refine ⟨by omega, ?_⟩)
    | (refine V_sseq ?_; simp [hx, hgv])
    | (refine V_scond ?_; simp [hx, hgv])
    | (refine V_sregion ?_; simp [hx, hgv])
    | (refine V_skip ?_; simp only [RK_seq, RK_seq_ret, RK_seq_exit, RK_blk, RK_blk_ret, RK_blk_exit, RK_loop, RK_loop_ret, RK_loop_exit, RK_done])
    | (refine ⟨?_, by omega⟩)
    | (intro hc <;> (try (exfalso; omega)))
    | fail)
    refine LoopW.next ⟨i + 1, by omega⟩ (by simp; omega) ?_
    exact (Wk.cut rfl (by simp [hn, St.lp]) (by simp [wkO, St.lp, getK_cons, getK, Ob.under, D.under, under_rowsD, under_entD, hsn]) (by simp [wkU, St.lp, keepE, getK_cons, getK, D.under, hsn]) (by simp [wkE, St.lp, keepE, getK_cons, getK, hsn] <;> (try (intros; simp_all; done)) <;> (try (intros; omega)) <;> (try grind)))
end Go.Proofs.Ytjmddlekokodfaa
