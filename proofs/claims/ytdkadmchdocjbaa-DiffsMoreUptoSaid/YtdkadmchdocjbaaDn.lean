/- Layer 13: a new search: the walk. -/
import Derived.Test.YtdkadmchdocjbaaDl
import Derived.Test.YtdkadmchdocjbaaDs
import Derived.Test.YtdkadmchdocjbaaVLB
import Derived.Test.YtdkadmchdocjbaaVLQ
set_option linter.all false
set_option maxRecDepth 100000
set_option maxHeartbeats 8000000
set_option linter.all false
namespace Go.Proofs.Ytdkadmchdocjbaa
open Go Go.VL
def fromTo (l : List Con) (k v : Nat) : List Nat := (List.range k).filter fun i => match l[i]? with
  | some c => decide (c.b = v)
  | none => false
theorem fromTo_all (l : List Con) (v : Nat) : fromTo l l.length v = fromS l v := rfl
theorem fromTo_succ {l : List Con} {k : Nat} {c : Con} (h : l[k]? = some c) (v : Nat) : fromTo l (k + 1) v = if v = c.b then fromTo l k v ++ [k] else fromTo l k v := by
  unfold fromTo
  rw [List.range_succ, List.filter_append]
  by_cases hv : v = c.b
  · rw [if_pos hv]
    simp [h, hv]
  · rw [if_neg hv]
    have : ¬ c.b = v := fun e => hv e.symm
    simp [h, this]
theorem fromTo_len (l : List Con) (k v : Nat) : (fromTo l k v).length ≤ k := by
  have := List.length_filter_le (fun i => match l[i]? with | some c => decide (c.b = v) | none => false) (List.range k)
  simpa [fromTo] using this
abbrev nats (l : List Nat) : List Int := l.map Int.ofNat
def lens (l : List Con) (m k : Nat) : List Nat := (List.range m).map fun v => (fromTo l k v).length
def frOb (l : List Con) (m k : Nat) : List Ob := (List.range m).map fun v => .vec 3 1 (intR (nats (fromTo l k v)))
theorem lens_len (l : List Con) (m k : Nat) : (lens l m k).length = m := by simp [lens]
theorem frOb_len (l : List Con) (m k : Nat) : (frOb l m k).length = m := by simp [frOb]
theorem lens_zero (l : List Con) (m : Nat) : List.replicate m 0 = lens l m 0 := by
  apply List.ext_getElem?
  intro j
  by_cases hj : j < m <;> simp [lens, fromTo, hj]
theorem frOb_zero (l : List Con) (m : Nat) : List.replicate m (Ob.vec 3 1 []) = frOb l m 0 := by
  apply List.ext_getElem?
  intro j
  by_cases hj : j < m <;> simp [frOb, fromTo, hj, intR]
theorem lens_set {l : List Con} {m k : Nat} {c : Con} (h : l[k]? = some c) : (lens l m k).set c.b ((fromTo l k c.b).length + 1) = lens l m (k + 1) := by
  apply List.ext_getElem?
  intro j
  simp only [lens, List.getElem?_set, List.length_map, List.length_range, List.getElem?_map]
  by_cases hj : c.b = j
  · subst hj
    by_cases hm : c.b < m
    · simp [hm, fromTo_succ h]
    · simp [hm]
  · rw [if_neg hj]
    by_cases hm : j < m
    · simp [hm, fromTo_succ h, Ne.symm hj]
    · simp [hm]
theorem frOb_set {l : List Con} {m k : Nat} {c : Con} (h : l[k]? = some c) : (frOb l m k).set c.b (.vec 3 1 (intR (nats (fromTo l k c.b ++ [k])))) = frOb l m (k + 1) := by
  apply List.ext_getElem?
  intro j
  simp only [frOb, List.getElem?_set, List.length_map, List.length_range, List.getElem?_map]
  by_cases hj : c.b = j
  · subst hj
    by_cases hm : c.b < m
    · simp [hm, fromTo_succ h]
    · simp [hm]
  · rw [if_neg hj]
    by_cases hm : j < m
    · simp [hm, fromTo_succ h, Ne.symm hj]
    · simp [hm]
theorem frOb_get (l : List Con) {m k v : Nat} (h : v < m) : (frOb l m k)[v]? = some (.vec 3 1 (intR (nats (fromTo l k v)))) := by simp [frOb, h]
theorem lens_get (l : List Con) {m k v : Nat} (h : v < m) : (lens l m k)[v]? = some (fromTo l k v).length := by simp [lens, h]
theorem frOb_pure (l : List Con) (m k : Nat) : famPure (frOb l m k) := fun o ho => by
  obtain ⟨v, _, rfl⟩ := List.mem_map.1 ho
  exact ⟨_, _, _, rfl, pure_intR _⟩
attribute [local simp] HS hcons hstep evPure opd uOf putOK St.put St.at getK binD binI binS binB nilD aggD eqUs cmpK lookD lookR rangeD Go.VL.nextD entryD keyD valU keyU lookK mkV entD_nil lookK_entD updK_entD1 updK_entD2 updK_entD3 allUE allUE_entD makeMapD mapUpdD mapEff updK valM Key.kk shiftI arith unD convD pickD loadD cellsAt fieldAddrD fieldD indexAddrD indexD sliceD cutD lenD minmaxD nilCheckD buildD fillD cellsD isOne ones setAll mkAgg allU allocD boxD storeD St.add buildSliceD appendD rowsOf makeD setOb getK_setOb getK_del getK_cons stripL strip guardTmp entry chunks zcells valD argsV argsW argW argU1 argU0 argsU0 argsU1 calleeOf scalarD scalarU delAll effD St.effS RK_seq RK_seq_ret RK_seq_exit RK_blk RK_blk_ret RK_blk_exit RK_loop RK_loop_ret RK_loop_exit RK_done vs_seq vs_block vs_skip vs_label vs_exit vs_ret vs_cond vs_region vs_loop vs_draw vs_range vs_scope applyW mkD rdIds lentIds callOf calleeOf freeOp D.ids Op.operands Call.operands isEffOp makeIfD typeAssertD conc concs conc1 uOfV panicD IntKind.bits allU2 allU2_append List.take_of_length_le List.range_succ
attribute [local irreducible] V G H HD HD2 HD4 HD4h RetX RunK Eff CallP CallV EndOK Fun Ret FinOK LoopI LoopW EndW
theorem newSearch_ret (m : Nat) (l : List Con) (bg : Nat → Bool) (begin_ : List Int) (hm : m ≤ 200) (hl : OkC m l) (hll : l.length ≤ 2000) (hbg : ∀ x, x ∈ begin_ ↔ 0 ≤ x ∧ x < m ∧ bg x.toNat = true) (hbl : begin_.length ≤ 1000) :
    Ret Try.prog 22 [.u (consU l), .u (.int .i64 m), .u (ints begin_)] [] 0 fun d obs nx' => d = .ptr 5 0 ∧ nx' = 6 ∧
      obs = [(5, .box [.u (consU l), .u (.sl ((List.range m).map fun v => [ints (nats (fromS l v))])), .vec 1 m, .vec 3 m, .vec 4 m]), (1, .vec 3 1 (intR (lst m (GS.zero bg).val))), (3, .vec 3 1 (intR (lst m (preI (-1) (GS.zero bg))))), (4, .vec 4 1 (boolR (bst m (GS.zero bg).kn)))] := by
  simp only [consU, ints]
  skip
  (refine Ret.of_bodyW Try.func22 rfl (by simp) fun Γ hn => ?_); simp only [entry, List.zipIdx_cons, List.zipIdx_nil, List.map_cons, List.map_nil, Nat.zero_add, Try.ntmps22]
  have k0 : intR [-1] = [[D.u (.int .i64 (-1))]] := rfl
  repeat' (first
    | (refine HD4_callN [(2, .vec 3 1 (intR [-1]))] ⟨[], some (.vec 3 1 (intR (List.replicate m (-1)))), .vec m⟩ (.vec 3 1 (intR (List.replicate m (-1)))) (fun nx' h' => repeat_x 2 nx' m (-1) (by omega)) ⟨rfl, rfl⟩ (by rfl) (by first | assumption | (simp; done) | fail) (by rfl) (by first | (simp [k0, under_intR, getK_cons, getK, getK_append, getK_del, getK_setOb, applyW, del]; done) | fail) (by first | (simp [k0, under_intR, D.under, Ob.under, under_rowsD]; done) | fail) (by simp) ?_; (try simp [k0, under_intR]))
    | (refine H_cons ?_; simp [k0, under_intR])
    | (refine HD4_val rfl ?_; simp [k0, under_intR])
    | (refine HD4_chg rfl ?_; simp [k0, under_intR])
    | (refine H_nil ?_; simp [k0, under_intR])
    | (refine ⟨by omega, ?_⟩)
    | (refine V_sseq ?_; simp [k0, under_intR])
    | (refine HD4_nil (hC _ (by kernel_rfl)) (hk _ ?_); clear hC hk C k; simp only [RK_seq, RK_seq_ret, RK_seq_exit, RK_blk, RK_blk_ret, RK_blk_exit, RK_loop, RK_loop_ret, RK_loop_exit, RK_done])
    | (refine V_drawX rfl (by kernel_rfl) (by first | (simp [hn]; done) | (simp [hn]; omega) | fail) fun C k hC hk => ?_; simp [k0, under_intR])
    | (refine V_sblock ?_; simp [k0, under_intR])
    | fail)
  refine V_wk { n := 64, env := [(26, .u (.int .i64 0)), (25, .u (.int .i64 l.length)), (24, .u (.sl (l.map fun c => [.int .i64 c.A, .int .i64 c.B, .int .i64 c.N]))), (7, .ptr 5 0), (2, .u (.sl (begin_.map fun n => [.int .i64 n])))], obs := (0, .vec 23 1 (List.replicate m [.u .nil])) :: [(5, .box [.u (.sl (l.map fun c => [.int .i64 c.A, .int .i64 c.B, .int .i64 c.N])), .vec 0 m, .vec 1 m, .vec 3 m, .vec 4 m]), (1, .vec 3 1 (intR (lst m (GS.zero bg).val))), (3, .vec 3 1 (intR (lst m (preI (-1) (GS.zero bg))))), (4, .vec 4 1 (boolR (List.replicate m false)))], next := 6 } ?_ ?_
  · have q1 := zero_val m bg
    have q2 : List.replicate m (-1 : Int) = lst m (preI (-1) (GS.zero bg)) := by rw [lst_rep]; rfl
    have q3 := intR_rep m 0
    have q4 := boolR_rep m false
    have q5 : (∀ x ∈ List.replicate m [D.u .nil], ∀ y ∈ x, D.under 6 y = true) ↔ True := ⟨fun _ => trivial, fun _ x hx y hy => by rw [List.eq_of_mem_replicate hx] at hy; simp at hy; subst hy; simp [D.under]⟩
    exact (Wk.cut rfl (by simp [hn, St.lp]) (by simp [wkO, wkO_tail, endsIn_here, endsIn_cons, del_cons, del_fam, St.lp, getK_cons, getK, Ob.under, D.under, under_rowsD, under_entD, pure_intR, under_intR, pure_boolR, under_boolR, q1, q2, q3, q4, q5]) (by simp [wkU, St.lp, keepE, getK_cons, getK, D.under, pure_intR, under_intR, pure_boolR, under_boolR, q1, q2, q3, q4, q5]) (by simp [wkE, St.lp, keepE, getK_cons, getK, pure_intR, under_intR, pure_boolR, under_boolR, q1, q2, q3, q4, q5] <;> (try (intros; simp_all; done)) <;> (try (intros; omega)) <;> (try grind)))
  refine V_wk _ (Wk.nilFamE 0 23 3 1 m (by decide) [(5, _), (1, _), (3, _), (4, _)] (by simp) (by simp) rfl) ?_
  simp only [lens_zero l m, frOb_zero l m, List.cons_append, List.nil_append]
  rw [show 6 + m = m + 6 from Nat.add_comm 6 m]
  refine V_loopO (α := { k : Nat // k ≤ l.length }) [2, 7, 24, 25] (fun k => [(26, .u (.int .i64 k.1))])
    (fun k => (0, .vec 23 1 (idF 6 (lens l m k.1))) :: (5, .box [.u (.sl (l.map fun c => [.int .i64 c.A, .int .i64 c.B, .int .i64 c.N])), .vec 0 m, .vec 1 m, .vec 3 m, .vec 4 m]) :: (1, .vec 3 1 (intR (lst m (GS.zero bg).val))) :: (3, .vec 3 1 (intR (lst m (preI (-1) (GS.zero bg))))) :: (4, .vec 4 1 (boolR (List.replicate m false))) :: fam 6 (frOb l m k.1)) (m + 6) (fun k => l.length - k.1) ⟨0, by omega⟩ ?_ ?_
  · exact (Wk.cut rfl (by simp [hn, St.lp]) (by simp [wkO, wkO_tail, endsIn_here, endsIn_cons, del_cons, del_fam, St.lp, getK_cons, getK, Ob.under, D.under, under_rowsD, under_entD, pure_intR, under_intR, pure_boolR, under_boolR, frOb_len, frOb_pure, lens_len, idF_under2]) (by simp [wkU, St.lp, keepE, getK_cons, getK, D.under, pure_intR, under_intR, pure_boolR, under_boolR, frOb_len, frOb_pure, lens_len, idF_under2]) (by simp [wkE, St.lp, keepE, getK_cons, getK, pure_intR, under_intR, pure_boolR, under_boolR, frOb_len, frOb_pure, lens_len, idF_under2] <;> (try (intros; simp_all; done)) <;> (try (intros; omega)) <;> (try grind)))
  rintro ⟨k, hk⟩
  simp [St.lp, St.only, keepE, getK_cons, getK]
  rcases hx : l[k]? with _ | c
  · have hge : l.length ≤ k := by simpa using hx
    obtain rfl : k = l.length := by omega
    repeat' (first
    | (refine H_cons ?_; simp [hx])
    | (refine H_nil ?_; simp [hx])
    | (refine V_sseq ?_; simp [hx])
    | (refine V_sblock ?_; simp [hx])
    | (refine V_exit ?_; simp [RK_seq, RK_seq_ret, RK_seq_exit, RK_blk, RK_blk_ret, RK_blk_exit, RK_loop, RK_loop_ret, RK_loop_exit, RK_done])
    | fail)
    have hus : (((List.range m).map fun v => (nats (fromS l v)).map fun z => [U.int .i64 z]).map fun r => Ob.vec 3 1 (rowsD r)) = frOb l m l.length := by
      simp only [frOb, List.map_map]
      refine List.map_congr_left fun v _ => ?_
      simp only [Function.comp]
      rw [← List.map_map, intR_rows, fromTo_all]
    have hls : (((List.range m).map fun v => (nats (fromS l v)).map fun z => [U.int .i64 z]).map (·.length)) = lens l m l.length := by
      simp only [lens, List.map_map]
      refine List.map_congr_left fun v _ => ?_
      simp [Function.comp, fromTo_all]
    refine V_wk _ (Wk.frzFamE 0 6 23 3 1 ((List.range m).map fun v => (nats (fromS l v)).map fun z => [U.int .i64 z]) [(5, _), (1, _), (3, _), (4, _)] (by omega) (by simp [outD]) (by simp) (by rw [hus, hls]; rfl)) ?_
    refine V_wk _ (Wk.frz 0 [5] (us := ((List.range m).map fun v => (nats (fromS l v)).map fun z => [U.int .i64 z]).map fun r => [U.sl r]) rfl (by simp)) ?_
    simp [St.frz, St.frzS, frzS, fv, fzVec, frzObS, del]
    have hfu : List.map ((fun r => [U.sl r]) ∘ fun v => List.map ((fun z => [U.int .i64 z]) ∘ Int.ofNat) (fromS l v)) (List.range m) = (List.range m).map fun v => [ints (nats (fromS l v))] := by simp [ints, Function.comp_def]
    rw [hfu]
    have hk0 : List.replicate m false = bst m fun x => decide ((x : Int) ∈ begin_.take 0) := by rw [bst_rep]; simp
    refine V_loopO (α := { k : Nat // k ≤ begin_.length }) [7, 50, 51] (fun k => [(52, .u (.int .i64 k.1))])
      (fun k => [(5, .box [.u (.sl (l.map fun c => [.int .i64 c.A, .int .i64 c.B, .int .i64 c.N])), .u (.sl ((List.range m).map fun v => [ints (nats (fromS l v))])), .vec 1 m, .vec 3 m, .vec 4 m]), (1, .vec 3 1 (intR (lst m (GS.zero bg).val))), (3, .vec 3 1 (intR (lst m (preI (-1) (GS.zero bg))))), (4, .vec 4 1 (boolR (bst m fun x => decide ((x : Int) ∈ begin_.take k.1))))]) 6 (fun k => begin_.length - k.1) ⟨0, by omega⟩ ?_ ?_
    · exact (Wk.cut rfl (by simp [hn, St.lp]) (by simp [wkO, wkO_tail, endsIn_here, endsIn_cons, del_cons, del_fam, St.lp, getK_cons, getK, Ob.under, D.under, under_rowsD, under_entD, pure_intR, under_intR, pure_boolR, under_boolR, hk0]) (by simp [wkU, St.lp, keepE, getK_cons, getK, D.under, pure_intR, under_intR, pure_boolR, under_boolR, hk0]) (by simp [wkE, St.lp, keepE, getK_cons, getK, pure_intR, under_intR, pure_boolR, under_boolR, hk0] <;> (try (intros; simp_all; done)) <;> (try (intros; omega)) <;> (try grind)))
    rintro ⟨k, hk⟩
    simp [St.lp, St.only, keepE, getK_cons, getK]
    rcases hv : begin_[k]? with _ | v
    · have hge : begin_.length ≤ k := by simpa using hv
      have hfin : bst m (fun x => decide ((x : Int) ∈ begin_.take k)) = bst m (GS.zero bg).kn := by
        rw [List.take_of_length_le hge]
        unfold bst
        refine List.map_congr_left fun x hx' => ?_
        have hxm := List.mem_range.1 hx'
        have := hbg (x : Int)
        simp only [Int.toNat_natCast] at this
        rw [Bool.eq_iff_iff, decide_eq_true_iff, this]
        simp only [GS.zero]
        exact ⟨fun h => h.2.2, fun h => ⟨by omega, by omega, h⟩⟩
      rw [hfin]
      repeat' (first
    | (refine H_cons ?_; simp [hv])
    | (refine H_nil ?_; simp [hv])
    | (refine ⟨by omega, ?_⟩)
    | (refine V_sseq ?_; simp [hv])
    | (refine V_ret ?_; simp only [RK_seq, RK_seq_ret, RK_seq_exit, RK_blk, RK_blk_ret, RK_blk_exit, RK_loop, RK_loop_ret, RK_loop_exit, RK_done])
    | (refine V_exit ?_; simp [RK_seq, RK_seq_ret, RK_seq_exit, RK_blk, RK_blk_ret, RK_blk_exit, RK_loop, RK_loop_ret, RK_loop_exit, RK_done])
    | (intro hc <;> (try (exfalso; omega)))
    | fail)
      refine EndW.here ?_
      (first | (refine EndOK.fin (.inr rfl) ?_) | (refine EndOK.fin (.inl rfl) ?_)); simp [resD, oneOrTup, Try.results22]
      refine FinOK.here (by simp) ⟨rfl, rfl, ?_⟩
      simp [ints]
    · have hlt : k < begin_.length := (List.getElem?_eq_some_iff.1 hv).1
      have htk := take_snoc hv
      obtain ⟨hv0, hvm, _⟩ := (hbg v).1 (List.mem_of_getElem? hv)
      obtain ⟨V, rfl⟩ := Int.eq_ofNat_of_zero_le hv0
      have hVm : V < m := by omega
      have hst : bst m (fun j => decide (j = V) || decide ((j : Int) ∈ begin_.take k)) = bst m fun j => decide ((j : Int) ∈ begin_.take (k + 1)) := by
        unfold bst
        refine List.map_congr_left fun x _ => ?_
        rw [htk, Bool.eq_iff_iff]
        simp only [Bool.or_eq_true, decide_eq_true_eq, List.mem_append, List.mem_singleton]
        constructor
        · rintro (h | h)
          · exact .inr (by omega)
          · exact .inl h
        · rintro (h | h)
          · exact .inr h
          · exact .inl (by omega)
      repeat' (first
    | (refine H_cons ?_; simp [hv, hVm, boolR_len, boolR_getE, boolR_set, bst_len, bst_getE, bst_set, hst])
    | (refine H_nil ?_; simp [hv, hVm, boolR_len, boolR_getE, boolR_set, bst_len, bst_getE, bst_set, hst])
    | (refine ⟨by omega, ?_⟩)
    | (refine V_sseq ?_; simp [hv, hVm, boolR_len, boolR_getE, boolR_set, bst_len, bst_getE, bst_set, hst])
    | (refine V_sregion ?_; simp [hv, hVm, boolR_len, boolR_getE, boolR_set, bst_len, bst_getE, bst_set, hst])
    | (refine V_skip ?_; simp only [RK_seq, RK_seq_ret, RK_seq_exit, RK_blk, RK_blk_ret, RK_blk_exit, RK_loop, RK_loop_ret, RK_loop_exit, RK_done])
    | (refine ⟨?_, by omega⟩)
    | (intro hc <;> (try (exfalso; omega)))
    | fail)
      refine LoopW.next ⟨k + 1, by omega⟩ (by simp; omega) ?_
      exact (Wk.cut rfl (by simp [hn, St.lp]) (by simp [wkO, wkO_tail, endsIn_here, endsIn_cons, del_cons, del_fam, St.lp, getK_cons, getK, Ob.under, D.under, under_rowsD, under_entD, pure_intR, under_intR, pure_boolR, under_boolR]) (by simp [wkU, St.lp, keepE, getK_cons, getK, D.under, pure_intR, under_intR, pure_boolR, under_boolR]) (by simp [wkE, St.lp, keepE, getK_cons, getK, pure_intR, under_intR, pure_boolR, under_boolR] <;> (try (intros; simp_all; done)) <;> (try (intros; omega)) <;> (try grind)))
  · have hlt : k < l.length := (List.getElem?_eq_some_iff.1 hx).1
    have hcl := hl c (List.mem_of_getElem? hx)
    have hls := lens_set (m := m) hx
    have hfs := frOb_set (m := m) hx
    have hlen := fromTo_len l k c.b
    obtain ⟨A, B, N⟩ := c
    simp only at hcl
    obtain ⟨ha0, han, hb0, hbn, hN1, hN2⟩ := hcl
    obtain ⟨b, rfl⟩ := Int.eq_ofNat_of_zero_le hb0
    simp only [Con.b, Int.toNat_natCast] at hls hfs hlen
    have hbm : b < m := by omega
    have hbne : ¬ b = m := by omega
    have hbne2 : ¬ m = b := by omega
    have hbne3 : ¬ b = m + 1 := by omega
    have hbne4 : ¬ b = m + 2 := by omega
    have hbne5 : ¬ m + 1 = b := by omega
    have hbne6 : ¬ m + 2 = b := by omega
    have hrow : ∀ h : b < (idF 6 (lens l m k)).length, (idF 6 (lens l m k))[b]'h = [D.vec (b + 6) (fromTo l k b).length] := fun h => by
      have := idF_get 6 (lens l m k) b _ (lens_get l hbm)
      rw [List.getElem?_eq_getElem h] at this
      exact Option.some.inj this
    have hget : getK (fam 6 (frOb l m k)) (b + 6) = some (.vec 3 1 (intR (nats (fromTo l k b)))) := by rw [getK_fam_add, frOb_get l hbm]
    have hil := idF_len 6 (lens l m k)
    rw [lens_len] at hil
    have q7 : intR (nats (fromTo l k b)) ++ [[D.u (.int .i64 (k : Int))]] = intR (nats (fromTo l k b ++ [k])) := by simp [intR]
    have q8 := intR_lenR (nats (fromTo l k b))
    skip
    repeat' (first
    | (refine H_cons ?_; simp [hx, hrow, hget, hil, hbm, hbne, hbne2, hbne3, hbne4, hbne5, hbne6, intR_len, q7, q8, List.length_map, del_cons, del_append])
    | (refine HD4_val rfl ?_; simp [hx, hrow, hget, hil, hbm, hbne, hbne2, hbne3, hbne4, hbne5, hbne6, intR_len, q7, q8, List.length_map, del_cons, del_append])
    | (refine HD4_chg rfl ?_; simp [hx, hrow, hget, hil, hbm, hbne, hbne2, hbne3, hbne4, hbne5, hbne6, intR_len, q7, q8, List.length_map, del_cons, del_append])
    | (refine H_nil ?_; simp [hx, hrow, hget, hil, hbm, hbne, hbne2, hbne3, hbne4, hbne5, hbne6, intR_len, q7, q8, List.length_map, del_cons, del_append])
    | (refine ⟨by omega, ?_⟩)
    | (refine V_sseq ?_; simp [hx, hrow, hget, hil, hbm, hbne, hbne2, hbne3, hbne4, hbne5, hbne6, intR_len, q7, q8, List.length_map, del_cons, del_append])
    | (refine HD4_nil (hC _ (okP4_ren [0, 5, m + 6, b + 6] (m + 7) (by simp <;> omega) (by simp <;> omega) (by apply Exists.intro; apply And.intro; (focus (repeat' (first | exact KF.nil | exact KL.nil | apply KF.cons | apply KL.cons 0 rfl | apply KL.cons 1 rfl | apply KL.cons 2 rfl | apply KL.cons 3 rfl | apply KL.cons 4 rfl | apply KL.cons 5 rfl | apply KL.cons 6 rfl | apply KL.cons 7 rfl | apply KL.cons 8 rfl | apply KL.cons 9 rfl))); kernel_rfl))) (hk _ ?_); clear hC hk C k; simp only [RK_seq, RK_seq_ret, RK_seq_exit, RK_blk, RK_blk_ret, RK_blk_exit, RK_loop, RK_loop_ret, RK_loop_exit, RK_done])
    | (refine V_drawX rfl (by kernel_rfl) (by first | (simp [hn]; done) | (simp [hn]; omega) | fail) fun C k hC hk => ?_; simp [hx, hrow, hget, hil, hbm, hbne, hbne2, hbne3, hbne4, hbne5, hbne6, intR_len, q7, q8, List.length_map, del_cons, del_append])
    | (refine V_sregion ?_; simp [hx, hrow, hget, hil, hbm, hbne, hbne2, hbne3, hbne4, hbne5, hbne6, intR_len, q7, q8, List.length_map, del_cons, del_append])
    | (refine V_skip ?_; simp only [RK_seq, RK_seq_ret, RK_seq_exit, RK_blk, RK_blk_ret, RK_blk_exit, RK_loop, RK_loop_ret, RK_loop_exit, RK_done])
    | (refine ⟨?_, by omega⟩)
    | (intro hc <;> (try (exfalso; omega)))
    | fail)
    refine LoopW.next ⟨k + 1, by omega⟩ (by simp; omega) ?_
    simp only [← hls, ← hfs]
    refine Wk.famSet 0 6 (m + 6 + 1 + 1) b 23 ((fromTo l k b).length + 1) (lens l m k) _ rfl (by simp [hn]) (by simp [hn]) (by simp only; omega) (by omega) (by rw [lens_len]; exact hbm) (by rw [lens_len]; exact Nat.le_refl _) ?_ rfl ?_ ?_
    · simp [getK_cons, getK_del, getK_setOb]
    · simp [wkER, rho1, St.lp, keepE, getK_cons, getK, D.under, D.le, D.ren]
    · simp only [wkR]
      refine ⟨?_, ?_, ?_, ?_, wkR_tailF (fun q hq1 hq2 => ?_) (frOb_pure l m k) (fun o ho => ?_) (by rw [frOb_len]; exact Nat.le_refl _) ?_⟩
      · simp [rho1, getK_cons, getK_del, getK_setOb, obR, leU, D.under, D.le, D.ren]
      · simp [rho1, getK_cons, getK_del, getK_setOb, obR, pure_intR]
      · simp [rho1, getK_cons, getK_del, getK_setOb, obR, pure_intR]
      · simp [rho1, getK_cons, getK_del, getK_setOb, obR, pure_boolR]
      · rw [frOb_len] at hq2
        have w1 : ¬ q = m + 2 := by omega
        have w2 : ¬ q = m + 1 := by omega
        have w3 : ¬ q = m := by omega
        simp [getK_cons, getK_del, getK_setOb, w1, w2, w3, hq1, getK_fam_add]
      · simp at ho
        subst ho
        exact ⟨_, _, _, rfl, pure_intR _⟩
      · simp [getK_cons, getK_del, getK_setOb]
end Go.Proofs.Ytdkadmchdocjbaa
