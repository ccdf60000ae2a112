/- Texts joined by a program of mine: Eb Ec Ed Ee Ef Eg Eh Ei Ej Ek El Em En Eo Ep Er. -/
import Derived.Test.YtfcopibncpkdoaaDoorK4
set_option linter.all false
set_option maxRecDepth 100000
set_option maxHeartbeats 8000000
namespace Go.Proofs.YtfcopibncpkdoaaDoor
open Go Go.VL
def signsL : List (List UInt8) := [[61, 61], [59], [44], [61], [60], [43], [45], [42], [47], [40], [41]]
def nextO (s : List UInt8) : Except Int Tok := match s with
  | [] => .error 0
  | c :: r => if isLetter c = true then
      if wordB ((c :: r).take (spanL isWordC (c :: r))) = true then .ok ⟨1, (c :: r).take (spanL isWordC (c :: r)), 0, 0⟩ else .error 13
    else if isDigit c = true then
      match numberO ((c :: r).take (spanL isDigit (c :: r))) with | some n => .ok ⟨2, (c :: r).take (spanL isDigit (c :: r)), n, 0⟩ | none => .error 3
    else match signsL.find? fun x => x.isPrefixOf (c :: r) with | some x => .ok ⟨3, x, 0, 0⟩ | none => .error 11
def nextD (s : List UInt8) : D := match nextO s with | .ok t => .tup [.u (.agg [.int .i64 t.kind, .str t.text, .int .i64 t.n, .int .i64 t.pos]), .u (.int .i64 0)] | .error e => .tup [.u (.agg [.int .i64 0, .str [], .int .i64 0, .int .i64 0]), .u (.int .i64 e)]
attribute [local simp] hcons hstep evPure opd uOf putOK St.put St.at getK binD binI binS binB nilD aggD eqUs cmpK lookD lookR rangeD nextD entryD keyD valU keyU lookK mkV entD_nil lookK_entD updK_entD1 updK_entD3 allUE allUE_entD makeMapD mapUpdD mapEff updK valM Key.kk shiftI arith unD convD pickD loadD cellsAt fieldAddrD fieldD indexAddrD indexD sliceD cutD lenD minmaxD nilCheckD buildD fillD cellsD isOne ones setAll mkAgg allU allocD boxD storeD St.add buildSliceD appendD rowsOf makeD setOb getK_setOb getK_del getK_cons stripL strip guardTmp entry chunks zcells valD argsV argsW argW argU1 argU0 argsU0 argsU1 calleeOf scalarD scalarU delAll effD St.effS RK_seq RK_seq_ret RK_seq_exit RK_blk RK_blk_ret RK_blk_exit RK_loop RK_loop_ret RK_loop_exit RK_done vs_seq vs_block vs_cond vs_region vs_loop vs_draw applyW mkD rdIds lentIds callOf calleeOf freeOp D.ids Op.operands Call.operands isEffOp makeIfD typeAssertD conc concs conc1 uOfV panicD IntKind.bits allU2 allU2_append List.take_of_length_le List.range_succ
attribute [local irreducible] V G H HD HD2 RunK Eff CallP CallV EndOK Fun Ret FinOK LoopI LoopW EndW
theorem prefix1_fun (s p : List UInt8) : Fun Tryd.prog 116 [.u (.str s), .u (.str p)] (· = .u (.bool (p.isPrefixOf s))) := by
  by_cases hl : p.length ≤ s.length
  · have hl2 : (p.length : Int) ≤ s.length := by omega
    by_cases he : s.take p.length = p
    · have hp : p.isPrefixOf s = true := List.isPrefixOf_iff_prefix.2 (List.prefix_iff_eq_take.2 he.symm)
      (refine Fun.of_body Tryd.func116 rfl (by simp) fun Γ hn => ?_); simp only [entry, List.zipIdx_cons, List.zipIdx_nil, List.map_cons, List.map_nil, Nat.zero_add, Tryd.ntmps116]
      repeat' (first
    | (refine H_cons ?_; simp [hl, hl2, he])
    | (refine H_nil ?_; simp [hl, hl2, he])
    | (refine V_sseq ?_; simp [hl, hl2, he])
    | (refine V_ret ?_; simp only [RunK])
    | fail)
      all_goals
        (refine EndOK.val (.inr rfl) ?_; simp [resD, oneOrTup, pureD, Tryd.results116])
      all_goals first | (rw [hp]; done) | exact List.isPrefixOf_iff_prefix.1 hp | (simp [hp]; done) | rfl
    · have hp : p.isPrefixOf s = false := by
        cases h : p.isPrefixOf s with
        | false => rfl
        | true => exact absurd (List.prefix_iff_eq_take.1 (List.isPrefixOf_iff_prefix.1 h)).symm he
      (refine Fun.of_body Tryd.func116 rfl (by simp) fun Γ hn => ?_); simp only [entry, List.zipIdx_cons, List.zipIdx_nil, List.map_cons, List.map_nil, Nat.zero_add, Tryd.ntmps116]
      repeat' (first
    | (refine H_cons ?_; simp [hl, hl2, he])
    | (refine H_nil ?_; simp [hl, hl2, he])
    | (refine V_sseq ?_; simp [hl, hl2, he])
    | (refine V_ret ?_; simp only [RunK])
    | fail)
      all_goals
        (refine EndOK.val (.inr rfl) ?_; simp [resD, oneOrTup, pureD, Tryd.results116])
      all_goals first | (rw [hp]; done) | exact List.isPrefixOf_iff_prefix.1 hp | (simp [hp]; done) | rfl
  · have hl2 : ¬ (p.length : Int) ≤ s.length := by omega
    have hp : p.isPrefixOf s = false := by
      cases h : p.isPrefixOf s with
      | false => rfl
      | true => exact absurd (List.isPrefixOf_iff_prefix.1 h).length_le hl
    (refine Fun.of_body Tryd.func116 rfl (by simp) fun Γ hn => ?_); simp only [entry, List.zipIdx_cons, List.zipIdx_nil, List.map_cons, List.map_nil, Nat.zero_add, Tryd.ntmps116]
    repeat' (first
    | (refine H_cons ?_; simp [hl, hl2])
    | (refine H_nil ?_; simp [hl, hl2])
    | (refine V_sseq ?_; simp [hl, hl2])
    | (refine V_ret ?_; simp only [RunK])
    | fail)
    all_goals
      (refine EndOK.val (.inr rfl) ?_; simp [resD, oneOrTup, pureD, Tryd.results116])
    all_goals first | (rw [hp]; done) | exact List.isPrefixOf_iff_prefix.1 hp | (simp [hp]; done) | rfl
theorem prefix_fun (s p : List UInt8) : Fun Tryd.prog 114 [.u (.str s), .u (.str p)] (· = .u (.bool (p.isPrefixOf s))) := by
  have h := prefix1_fun s p
  (refine Fun.of_body Tryd.func114 rfl (by simp) fun Γ hn => ?_); simp only [entry, List.zipIdx_cons, List.zipIdx_nil, List.map_cons, List.map_nil, Nat.zero_add, Tryd.ntmps114]
  repeat' (first
    | (refine H_cons ?_; simp)
    | (refine H_nil ?_; simp)
    | (refine V_sseq ?_; simp)
    | (refine V_ret ?_; simp only [RunK])
    | (refine CallP.fun_ (h) (by first | rfl | fail) (by first | assumption | (simp; done) | fail) (by first | (simp; done) | (simp; rfl) | fail) (by first | (simp; done) | fail) (fun d hd => ?_); subst hd; (try simp))
    | fail)
  (refine EndOK.val (.inr rfl) ?_; simp [resD, oneOrTup, pureD, Tryd.results114])
@[local simp] theorem glob_signs : globD 0 = .u (.row (signsL.map .str) 0) := by
  simp [globD, globs, signsL, uOf]
theorem hsl : signsL.length = 11 := rfl
theorem next_fun (s : List UInt8) (hs : s ≠ []) (hl : s.length ≤ 1000000) : Fun Tryd.prog 95 [.u (.str s)] (· = nextD s) := by
  obtain ⟨c, r, rfl⟩ : ∃ c r, s = c :: r := by cases s with | nil => exact absurd rfl hs | cons c r => exact ⟨c, r, rfl⟩
  have h1 := letter_fun c
  have h2 := digit_fun c
  have h3 := span_fun (c :: r) hl 112 isWordC (fun c _ => next1_fun c) (by simp)
  have h4 := span_fun (c :: r) hl 104 isDigit (fun c _ => digit_fun c) (by simp)
  have h5 := word_fun ((c :: r).take (spanL isWordC (c :: r)))
  have h6 := number_fun ((c :: r).take (spanL isDigit (c :: r))) (by have := spanL_le isDigit (c :: r); rw [List.length_take]; omega)
  have l1 : (spanL isWordC (c :: r) : Int) ≤ r.length + 1 := by have := spanL_le isWordC (c :: r); simp at this; omega
  have l2 : (spanL isDigit (c :: r) : Int) ≤ r.length + 1 := by have := spanL_le isDigit (c :: r); simp at this; omega
  have l1' : spanL isWordC (c :: r) ≤ r.length + 1 := by omega
  have l2' : spanL isDigit (c :: r) ≤ r.length + 1 := by omega
  unfold nextD nextO
  cases c1 : isLetter c with
  | true =>
    rw [c1] at h1
    cases c3 : wordB ((c :: r).take (spanL isWordC (c :: r))) with
    | true =>
      rw [c3] at h5
      (refine Fun.of_body Tryd.func95 rfl (by simp) fun Γ hn => ?_); simp only [entry, List.zipIdx_cons, List.zipIdx_nil, List.map_cons, List.map_nil, Nat.zero_add, Tryd.ntmps95]
      repeat' (first
    | (refine H_cons ?_; simp [l1, l1'])
    | (refine H_nil ?_; simp [l1, l1'])
    | (refine V_sseq ?_; simp [l1, l1'])
    | (refine V_scond ?_; simp [l1, l1'])
    | (refine V_ret ?_; simp only [RunK])
    | (refine V_skip ?_; simp only [RunK])
    | (refine CallP.fun_ (h1) (by first | rfl | fail) (by first | assumption | (simp; done) | fail) (by first | (simp [l1, l1']; done) | (simp [l1, l1']; rfl) | fail) (by first | (simp; done) | fail) (fun d hd => ?_); subst hd; (try simp [l1, l1']))
    | (refine CallP.fun_ (h3) (by first | rfl | fail) (by first | assumption | (simp; done) | fail) (by first | (simp [l1, l1']; done) | (simp [l1, l1']; rfl) | fail) (by first | (simp; done) | fail) (fun d hd => ?_); subst hd; (try simp [l1, l1']))
    | (refine CallP.fun_ (h5) (by first | rfl | fail) (by first | assumption | (simp; done) | fail) (by first | (simp [l1, l1']; done) | (simp [l1, l1']; rfl) | fail) (by first | (simp; done) | fail) (fun d hd => ?_); subst hd; (try simp [l1, l1']))
    | fail)
      (refine EndOK.val (.inr rfl) ?_; simp [resD, oneOrTup, pureD, Tryd.results95])
      simp [c1, c3]
    | false =>
      rw [c3] at h5
      (refine Fun.of_body Tryd.func95 rfl (by simp) fun Γ hn => ?_); simp only [entry, List.zipIdx_cons, List.zipIdx_nil, List.map_cons, List.map_nil, Nat.zero_add, Tryd.ntmps95]
      repeat' (first
    | (refine H_cons ?_; simp [l1, l1'])
    | (refine H_nil ?_; simp [l1, l1'])
    | (refine V_sseq ?_; simp [l1, l1'])
    | (refine V_scond ?_; simp [l1, l1'])
    | (refine V_ret ?_; simp only [RunK])
    | (refine CallP.fun_ (h1) (by first | rfl | fail) (by first | assumption | (simp; done) | fail) (by first | (simp [l1, l1']; done) | (simp [l1, l1']; rfl) | fail) (by first | (simp; done) | fail) (fun d hd => ?_); subst hd; (try simp [l1, l1']))
    | (refine CallP.fun_ (h3) (by first | rfl | fail) (by first | assumption | (simp; done) | fail) (by first | (simp [l1, l1']; done) | (simp [l1, l1']; rfl) | fail) (by first | (simp; done) | fail) (fun d hd => ?_); subst hd; (try simp [l1, l1']))
    | (refine CallP.fun_ (h5) (by first | rfl | fail) (by first | assumption | (simp; done) | fail) (by first | (simp [l1, l1']; done) | (simp [l1, l1']; rfl) | fail) (by first | (simp; done) | fail) (fun d hd => ?_); subst hd; (try simp [l1, l1']))
    | fail)
      (refine EndOK.val (.inr rfl) ?_; simp [resD, oneOrTup, pureD, Tryd.results95])
      simp [c1, c3]
  | false =>
    rw [c1] at h1
    cases c2 : isDigit c with
    | true =>
      rw [c2] at h2
      cases c3 : numberO ((c :: r).take (spanL isDigit (c :: r))) with
      | none =>
        rw [c3] at h6
        (refine Fun.of_body Tryd.func95 rfl (by simp) fun Γ hn => ?_); simp only [entry, List.zipIdx_cons, List.zipIdx_nil, List.map_cons, List.map_nil, Nat.zero_add, Tryd.ntmps95]
        repeat' (first
    | (refine H_cons ?_; simp [l2, l2'])
    | (refine H_nil ?_; simp [l2, l2'])
    | (refine V_sseq ?_; simp [l2, l2'])
    | (refine V_scond ?_; simp [l2, l2'])
    | (refine V_ret ?_; simp only [RunK])
    | (refine CallP.fun_ (h1) (by first | rfl | fail) (by first | assumption | (simp; done) | fail) (by first | (simp [l2, l2']; done) | (simp [l2, l2']; rfl) | fail) (by first | (simp; done) | fail) (fun d hd => ?_); subst hd; (try simp [l2, l2']))
    | (refine CallP.fun_ (h2) (by first | rfl | fail) (by first | assumption | (simp; done) | fail) (by first | (simp [l2, l2']; done) | (simp [l2, l2']; rfl) | fail) (by first | (simp; done) | fail) (fun d hd => ?_); subst hd; (try simp [l2, l2']))
    | (refine CallP.fun_ (h4) (by first | rfl | fail) (by first | assumption | (simp; done) | fail) (by first | (simp [l2, l2']; done) | (simp [l2, l2']; rfl) | fail) (by first | (simp; done) | fail) (fun d hd => ?_); subst hd; (try simp [l2, l2']))
    | (refine CallP.fun_ (h6) (by first | rfl | fail) (by first | assumption | (simp; done) | fail) (by first | (simp [l2, l2']; done) | (simp [l2, l2']; rfl) | fail) (by first | (simp; done) | fail) (fun d hd => ?_); subst hd; (try simp [l2, l2']))
    | fail)
        (refine EndOK.val (.inr rfl) ?_; simp [resD, oneOrTup, pureD, Tryd.results95])
        simp [c1, c2, c3]
      | some n =>
        rw [c3] at h6
        (refine Fun.of_body Tryd.func95 rfl (by simp) fun Γ hn => ?_); simp only [entry, List.zipIdx_cons, List.zipIdx_nil, List.map_cons, List.map_nil, Nat.zero_add, Tryd.ntmps95]
        repeat' (first
    | (refine H_cons ?_; simp [l2, l2'])
    | (refine H_nil ?_; simp [l2, l2'])
    | (refine V_sseq ?_; simp [l2, l2'])
    | (refine V_scond ?_; simp [l2, l2'])
    | (refine V_ret ?_; simp only [RunK])
    | (refine V_skip ?_; simp only [RunK])
    | (refine CallP.fun_ (h1) (by first | rfl | fail) (by first | assumption | (simp; done) | fail) (by first | (simp [l2, l2']; done) | (simp [l2, l2']; rfl) | fail) (by first | (simp; done) | fail) (fun d hd => ?_); subst hd; (try simp [l2, l2']))
    | (refine CallP.fun_ (h2) (by first | rfl | fail) (by first | assumption | (simp; done) | fail) (by first | (simp [l2, l2']; done) | (simp [l2, l2']; rfl) | fail) (by first | (simp; done) | fail) (fun d hd => ?_); subst hd; (try simp [l2, l2']))
    | (refine CallP.fun_ (h4) (by first | rfl | fail) (by first | assumption | (simp; done) | fail) (by first | (simp [l2, l2']; done) | (simp [l2, l2']; rfl) | fail) (by first | (simp; done) | fail) (fun d hd => ?_); subst hd; (try simp [l2, l2']))
    | (refine CallP.fun_ (h6) (by first | rfl | fail) (by first | assumption | (simp; done) | fail) (by first | (simp [l2, l2']; done) | (simp [l2, l2']; rfl) | fail) (by first | (simp; done) | fail) (fun d hd => ?_); subst hd; (try simp [l2, l2']))
    | fail)
        (refine EndOK.val (.inr rfl) ?_; simp [resD, oneOrTup, pureD, Tryd.results95])
        simp [c1, c2, c3]
    | false =>
      rw [c2] at h2
      (refine Fun.of_body Tryd.func95 rfl (by simp) fun Γ hn => ?_); simp only [entry, List.zipIdx_cons, List.zipIdx_nil, List.map_cons, List.map_nil, Nat.zero_add, Tryd.ntmps95]
      repeat' (first
    | (refine H_cons ?_; simp [hsl, List.take_of_length_le])
    | (refine H_nil ?_; simp [hsl, List.take_of_length_le])
    | (refine V_sseq ?_; simp [hsl, List.take_of_length_le])
    | (refine V_scond ?_; simp [hsl, List.take_of_length_le])
    | (refine V_sblock ?_; simp [hsl, List.take_of_length_le])
    | (refine V_skip ?_; simp only [RunK])
    | (refine CallP.fun_ (h1) (by first | rfl | fail) (by first | assumption | (simp; done) | fail) (by first | (simp [hsl, List.take_of_length_le]; done) | (simp [hsl, List.take_of_length_le]; rfl) | fail) (by first | (simp; done) | fail) (fun d hd => ?_); subst hd; (try simp [hsl, List.take_of_length_le]))
    | (refine CallP.fun_ (h2) (by first | rfl | fail) (by first | assumption | (simp; done) | fail) (by first | (simp [hsl, List.take_of_length_le]; done) | (simp [hsl, List.take_of_length_le]; rfl) | fail) (by first | (simp; done) | fail) (fun d hd => ?_); subst hd; (try simp [hsl, List.take_of_length_le]))
    | fail)
      refine V_loopF (α := { i : Nat // i ≤ 11 ∧ ∀ x ∈ signsL.take i, x.isPrefixOf (c :: r) = false }) [0, 2, 3, 43] (fun i => [(44, .u (.int .i64 i.1))]) (fun i => 11 - i.1) ⟨0, by omega, by simp⟩ ?_ ?_
      · exact (Wk.cut rfl (by simp [hn, St.lp]) (by simp [wkO, St.lp, getK_cons, getK, Ob.under, D.under, under_rowsD, under_entD]) (by simp [wkU, St.lp, keepE, getK_cons, getK, D.under]) (by simp [wkE, St.lp, keepE, getK_cons, getK] <;> (try (intros; simp_all; done)) <;> (try (intros; omega)) <;> (try grind)))
      rintro ⟨i, hi, hb⟩
      simp [St.lp, St.only, keepE, getK_cons, getK]
      rcases hx : signsL[i]? with _ | x
      · have hge : signsL.length ≤ i := by simpa using hx
        obtain rfl : i = 11 := by rw [hsl] at hge; omega
        have hnone : signsL.find? (fun x => x.isPrefixOf (c :: r)) = none := List.find?_eq_none.2 fun x hx => by
          rw [hb x (by rw [List.take_of_length_le (by rw [hsl]; omega)]; exact hx)]; simp
        repeat' (first
    | (refine H_cons ?_; simp)
    | (refine H_nil ?_; simp)
    | (refine V_sseq ?_; simp)
    | (refine V_ret ?_; simp only [RunK])
    | (refine V_exit ?_; simp [RunK])
    | fail)
        (refine EndOK.val (.inr rfl) ?_; simp [resD, oneOrTup, pureD, Tryd.results95])
        simp [c1, c2, hnone]
      · have hlt : i < 11 := by have := (List.getElem?_eq_some_iff.1 hx).1; rw [hsl] at this; exact this
        have hlt2 : (i : Int) < 11 := by omega
        have hp := prefix_fun (c :: r) x
        by_cases hpx : x.isPrefixOf (c :: r) = true
        · have hfind : signsL.find? (fun x => x.isPrefixOf (c :: r)) = some x := by
            have e : signsL = signsL.take i ++ x :: signsL.drop (i + 1) := by
              obtain ⟨h5, h6⟩ := List.getElem?_eq_some_iff.1 hx
              rw [← h6, List.getElem_cons_drop, List.take_append_drop]
            rw [e, List.find?_append, List.find?_eq_none.2 (fun y hy => by rw [hb y hy]; simp), List.find?_cons, hpx]
            rfl
          rw [hpx] at hp
          repeat' (first
    | (refine H_cons ?_; simp [hx, hsl, hlt2])
    | (refine H_nil ?_; simp [hx, hsl, hlt2])
    | (refine V_sseq ?_; simp [hx, hsl, hlt2])
    | (refine V_scond ?_; simp [hx, hsl, hlt2])
    | (refine V_ret ?_; simp only [RunK])
    | (refine V_skip ?_; simp only [RunK])
    | (refine CallP.fun_ (hp) (by first | rfl | fail) (by first | assumption | (simp; done) | fail) (by first | (simp [hx, hsl, hlt2]; done) | (simp [hx, hsl, hlt2]; rfl) | fail) (by first | (simp; done) | fail) (fun d hd => ?_); subst hd; (try simp [hx, hsl, hlt2]))
    | fail)
          (refine EndOK.val (.inr rfl) ?_; simp [resD, oneOrTup, pureD, Tryd.results95])
          simp [c1, c2, hfind]
        · rw [Bool.eq_false_iff.2 hpx] at hp
          repeat' (first
    | (refine H_cons ?_; simp [hx, hsl, hlt2])
    | (refine H_nil ?_; simp [hx, hsl, hlt2])
    | (refine ⟨by omega, ?_⟩)
    | (refine V_sseq ?_; simp [hx, hsl, hlt2])
    | (refine V_scond ?_; simp [hx, hsl, hlt2])
    | (refine V_sregion ?_; simp [hx, hsl, hlt2])
    | (refine V_skip ?_; simp only [RunK])
    | (refine CallP.fun_ (hp) (by first | rfl | fail) (by first | assumption | (simp; done) | fail) (by first | (simp [hx, hsl, hlt2]; done) | (simp [hx, hsl, hlt2]; rfl) | fail) (by first | (simp; done) | fail) (fun d hd => ?_); subst hd; (try simp [hx, hsl, hlt2]))
    | fail)
          refine LoopW.next ⟨i + 1, by omega, fun y hy => ?_⟩ (by simp; omega) ?_
          · rw [List.take_succ, hx] at hy
            rcases List.mem_append.1 hy with h | h
            · exact hb y h
            · simp at h; subst h; exact Bool.eq_false_iff.2 hpx
          · exact (Wk.cut rfl (by simp [hn, St.lp]) (by simp [wkO, St.lp, getK_cons, getK, Ob.under, D.under, under_rowsD, under_entD]) (by simp [wkU, St.lp, keepE, getK_cons, getK, D.under]) (by simp [wkE, St.lp, keepE, getK_cons, getK] <;> (try (intros; simp_all; done)) <;> (try (intros; omega)) <;> (try grind)))
end Go.Proofs.YtfcopibncpkdoaaDoor
namespace Go.Proofs.YtfcopibncpkdoaaDoor
open Go Go.VL
/-- The tokens of a string from a place on. -/
def lexF : Nat → List UInt8 → Nat → Except (Nat × Int) (List Tok)
  | 0, _, _ => .ok []
  | f + 1, s, p =>
    match (s.drop (p + spanL isBlank (s.drop p))) with
    | [] => .ok [⟨0, [], 0, ((p + spanL isBlank (s.drop p) : Nat) : Int)⟩]
    | c :: r => match nextO (c :: r) with
      | .error e => .error (p + spanL isBlank (s.drop p), e)
      | .ok t => match lexF f s (p + spanL isBlank (s.drop p) + t.text.length) with
        | .error x => .error x
        | .ok l => .ok ({ t with pos := ((p + spanL isBlank (s.drop p) : Nat) : Int) } :: l)
def lexL (s : List UInt8) : Except (Nat × Int) (List Tok) := if 2000 < s.length then .error (0, 6) else lexF (s.length + 1) s 0
def lexOut : Except (Nat × Int) (List Tok) → D
  | .ok l => .tup [.u (.sl (l.map fun t => [.int .i64 t.kind, .str t.text, .int .i64 t.n, .int .i64 t.pos])), .u (.int .i64 0), .u (.int .i64 0)]
  | .error (p, e) => .tup [.u (.sl []), .u (.int .i64 p), .u (.int .i64 e)]
def prepE (acc : List Tok) : Except (Nat × Int) (List Tok) → Except (Nat × Int) (List Tok)
  | .ok l => .ok (acc ++ l)
  | .error x => .error x
theorem prepE_nil (x) : prepE [] x = x := by cases x <;> simp [prepE]
theorem spanL_pos {p : UInt8 → Bool} {c : UInt8} {r : List UInt8} (h : p c = true) : 0 < spanL p (c :: r) := by
  unfold spanL; rw [List.takeWhile_cons, if_pos h]; simp
theorem nextO_text {s : List UInt8} {t : Tok} (h : nextO s = .ok t) : 0 < t.text.length ∧ t.text.length ≤ s.length := by
  unfold nextO at h
  split at h
  · cases h
  · rename_i c r
    by_cases c1 : isLetter c = true
    · rw [if_pos c1] at h
      split at h
      · cases h
        have h1 := spanL_pos (p := isWordC) (c := c) (r := r) (by simp [isWordC, c1])
        have h2 := spanL_le isWordC (c :: r)
        simp only [List.length_take]
        omega
      · cases h
    · rw [if_neg c1] at h
      by_cases c2 : isDigit c = true
      · rw [if_pos c2] at h
        split at h
        · cases h
          have h1 := spanL_pos (p := isDigit) (c := c) (r := r) c2
          have h2 := spanL_le isDigit (c :: r)
          simp only [List.length_take]
          omega
        · cases h
      · rw [if_neg c2] at h
        split at h
        · rename_i x hx
          cases h
          have h1 := List.find?_some hx
          have h2 := List.mem_of_find?_eq_some hx
          refine ⟨?_, (List.isPrefixOf_iff_prefix.1 h1).length_le⟩
          simp only [signsL, List.mem_cons, List.not_mem_nil, or_false] at h2
          rcases h2 with h | h | h | h | h | h | h | h | h | h | h <;> subst h <;> simp
        · cases h
def tokR (l : List Tok) : List (List D) := l.map fun t => [.u (.int .i64 t.kind), .u (.str t.text), .u (.int .i64 t.n), .u (.int .i64 t.pos)]
theorem tokR_len (l : List Tok) : (tokR l).length = l.length := by simp [tokR]
theorem tokR_rows (l : List Tok) : rowsD (l.map fun t => [U.int .i64 t.kind, .str t.text, .int .i64 t.n, .int .i64 t.pos]) = tokR l := by simp [rowsD, tokR, Function.comp_def]
theorem tokR_all (l : List Tok) : allU2 (tokR l) = some (l.map fun t => [U.int .i64 t.kind, .str t.text, .int .i64 t.n, .int .i64 t.pos]) := by rw [← tokR_rows]; simp
theorem pure_tokR (l) : pureRows (tokR l) = True := by rw [← tokR_rows]; simp
theorem under_tokR (n : Nat) (l) : (∀ x ∈ tokR l, ∀ y ∈ x, D.under n y = true) ↔ True := by
  refine ⟨fun _ => trivial, fun _ x hx y hy => ?_⟩
  obtain ⟨b, _, rfl⟩ := List.mem_map.1 hx
  simp at hy
  rcases hy with rfl | rfl | rfl | rfl <;> simp [D.under]
attribute [local simp] hcons hstep evPure opd uOf putOK St.put St.at getK binD binI binS binB nilD aggD eqUs cmpK lookD lookR rangeD nextD entryD keyD valU keyU lookK mkV entD_nil lookK_entD updK_entD1 updK_entD3 allUE allUE_entD makeMapD mapUpdD mapEff updK valM Key.kk shiftI arith unD convD pickD loadD cellsAt fieldAddrD fieldD indexAddrD indexD sliceD cutD lenD minmaxD nilCheckD buildD fillD cellsD isOne ones setAll mkAgg allU allocD boxD storeD St.add buildSliceD appendD rowsOf makeD setOb getK_setOb getK_del getK_cons stripL strip guardTmp entry chunks zcells valD argsV argsW argW argU1 argU0 argsU0 argsU1 calleeOf scalarD scalarU delAll effD St.effS RK_seq RK_seq_ret RK_seq_exit RK_blk RK_blk_ret RK_blk_exit RK_loop RK_loop_ret RK_loop_exit RK_done vs_seq vs_block vs_cond vs_region vs_loop vs_draw applyW mkD rdIds lentIds callOf calleeOf freeOp D.ids Op.operands Call.operands isEffOp makeIfD typeAssertD conc concs conc1 uOfV panicD IntKind.bits allU2 allU2_append List.take_of_length_le List.range_succ
attribute [local irreducible] V G H HD HD2 RunK Eff CallP CallV EndOK Fun Ret FinOK LoopI LoopW EndW
theorem lex_fun (s : List UInt8) : Fun Tryd.prog 66 [.u (.str s)] (· = lexOut (lexL s)) := by
  unfold lexL
  by_cases hlong : 2000 < s.length
  · have hlong2 : 2000 < (s.length : Int) := by omega
    rw [if_pos hlong]
    (refine Fun.of_bodyW Tryd.func66 rfl (by simp) fun Γ hn => ?_); simp only [entry, List.zipIdx_cons, List.zipIdx_nil, List.map_cons, List.map_nil, Nat.zero_add, Tryd.ntmps66]
    repeat' (first
    | (refine H_cons ?_; simp [hlong, hlong2])
    | (refine H_nil ?_; simp [hlong, hlong2])
    | (refine V_sseq ?_; simp [hlong, hlong2])
    | (refine V_scond ?_; simp [hlong, hlong2])
    | (refine V_ret ?_; simp only [RunK])
    | fail)
    refine EndW.norm (EndW.here ?_)
    (refine EndOK.val (.inr rfl) ?_; simp [resD, oneOrTup, pureD, Tryd.results66, frz_obs, frz_env, norm_obs, norm_env, frz, frzOb, frzS, fv, fzVec, fzMap, fzBox, frzObS, frz_entD, frz_rowsD, normD, normU, norm1, normOb])
    simp [lexOut]
  rw [if_neg hlong]
  have hlong2 : ¬ 2000 < (s.length : Int) := by omega
  obtain ⟨R, hR⟩ : ∃ R, R = lexF (s.length + 1) s 0 := ⟨_, rfl⟩
  rw [← hR]
  (refine Fun.of_bodyW Tryd.func66 rfl (by simp) fun Γ hn => ?_); simp only [entry, List.zipIdx_cons, List.zipIdx_nil, List.map_cons, List.map_nil, Nat.zero_add, Tryd.ntmps66]
  repeat' (first
    | (refine H_cons ?_; simp [hlong, hlong2])
    | (refine H_nil ?_; simp [hlong, hlong2])
    | (refine V_sseq ?_; simp [hlong, hlong2])
    | (refine V_scond ?_; simp [hlong, hlong2])
    | (refine V_sblock ?_; simp [hlong, hlong2])
    | (refine V_skip ?_; simp only [RunK])
    | fail)
  refine V_wk _ (Wk.own 5 90 4 (by decide) rfl) ?_
  simp [St.own]
  refine V_loopO (α := { x : List Tok × Nat × Nat // x.2.1 ≤ s.length ∧ s.length < x.2.1 + x.2.2 ∧ x.1.length ≤ x.2.1 ∧ R = prepE x.1 (lexF x.2.2 s x.2.1) }) [0] (fun x => [(5, .vec 0 x.1.1.length), (6, .u (.int .i64 x.1.2.1))]) (fun x => [(0, .vec 90 4 (tokR x.1.1))]) 1 (fun x => x.1.2.2) ⟨([], 0, s.length + 1), by simp, by simp, by simp, by rw [prepE_nil, hR]⟩ ?_ ?_
  · exact (Wk.cut rfl (by simp [hn, St.lp]) (by simp [wkO, St.lp, getK_cons, getK, Ob.under, D.under, under_rowsD, under_entD, tokR]) (by simp [wkU, St.lp, keepE, getK_cons, getK, D.under, tokR]) (by simp [wkE, St.lp, keepE, getK_cons, getK, tokR] <;> (try (intros; simp_all; done)) <;> (try (intros; omega)) <;> (try grind)))
  rintro ⟨⟨acc, p, f⟩, h1, h2, h3, h4⟩
  simp only at h1 h2 h3 h4
  simp [St.lp, St.only, keepE, getK_cons, getK]
  obtain ⟨f', rfl⟩ : ∃ f', f = f' + 1 := ⟨f - 1, by omega⟩
  rw [lexF] at h4
  have hsp := span_fun (s.drop p) (by rw [List.length_drop]; omega) 94 isBlank (fun c _ => blank_fun c) (by simp)
  have hle := spanL_le isBlank (s.drop p)
  rw [List.length_drop] at hle
  obtain ⟨b, hb⟩ : ∃ b, b = spanL isBlank (s.drop p) := ⟨_, rfl⟩
  rw [← hb] at hsp hle h4
  have hp1 : (p : Int) ≤ s.length := by omega
  have hpb : (p : Int) + b ≤ s.length := by omega
  rcases hd : s.drop (p + b) with _ | ⟨c, r⟩
  · have hdl : (s.drop (p + b)).length = 0 := by rw [hd]; rfl
    rw [List.length_drop] at hdl
    have hpe : p + b = s.length := by omega
    have hpe2 : (p : Int) + b = s.length := by omega
    rw [hd] at h4
    simp only at h4
    have hap : tokR acc ++ [[D.u (.int .i64 0), D.u (.str []), D.u (.int .i64 0), D.u (.int .i64 (s.length : Int))]] = tokR (acc ++ [⟨0, [], 0, s.length⟩]) := by simp [tokR]
    have hlr : lenR 4 (tokR acc) := fun r hr => by obtain ⟨t, _, rfl⟩ := List.mem_map.1 hr; rfl
    rw [hpe] at h4
    repeat' (first
    | (refine H_cons ?_; simp [h1, hp1, hpe2, tokR_len, hap, hlr])
    | (refine H_nil ?_; simp [h1, hp1, hpe2, tokR_len, hap, hlr])
    | (refine ⟨by omega, ?_⟩)
    | (refine V_sseq ?_; simp [h1, hp1, hpe2, tokR_len, hap, hlr])
    | (refine V_scond ?_; simp [h1, hp1, hpe2, tokR_len, hap, hlr])
    | (refine V_sblock ?_; simp [h1, hp1, hpe2, tokR_len, hap, hlr])
    | (refine V_ret ?_; simp only [RunK])
    | (refine CallP.fun_ (hsp) (by first | rfl | fail) (by first | assumption | (simp; done) | fail) (by first | (simp [h1, hp1, hpe2, tokR_len, hap, hlr]; done) | (simp [h1, hp1, hpe2, tokR_len, hap, hlr]; rfl) | fail) (by first | (simp; done) | fail) (fun d hd => ?_); subst hd; (try simp [h1, hp1, hpe2, tokR_len, hap, hlr]))
    | fail)
    (refine EndW.frzN 3 ?_; simp [frzN, frz1, frz_env, frz_obs, St.frz, St.frzS, frzS, fv, fzVec, fzMap, fzBox, frzObS, frz_entD, frz_rowsD, del, frz, frzOb, tokR_all, tokR_len, List.length_append])
    refine EndW.norm (EndW.here ?_)
    (refine EndOK.val (.inr rfl) ?_; simp [resD, oneOrTup, pureD, Tryd.results66, frz_obs, frz_env, norm_obs, norm_env, frz, frzOb, frzS, fv, fzVec, fzMap, fzBox, frzObS, frz_entD, frz_rowsD, normD, normU, norm1, normOb, tokR_all, tokR_len, List.length_append])
    rw [h4]
    simp [prepE, lexOut]
  · have hdl : (s.drop (p + b)).length = r.length + 1 := by rw [hd]; rfl
    rw [List.length_drop] at hdl
    have hpe : ¬ p + b = s.length := by omega
    have hpe2 : ¬ (p : Int) + b = s.length := by omega
    have hnx := next_fun (s.drop (p + b)) (by rw [hd]; simp) (by rw [List.length_drop]; omega)
    unfold nextD at hnx
    rw [hd] at h4
    simp only at h4
    rw [hd] at hnx
    have hpb2 : ((p : Int) + b).toNat = p + b := by omega
    have hpb3 : p + b ≤ s.length := by omega
    cases hno : nextO (c :: r) with
    | error e =>
      rw [hno] at h4 hnx
      have he : e ≠ 0 := by
        unfold nextO at hno
        simp only at hno
        split at hno
        · split at hno <;> cases hno
          omega
        · split at hno
          · split at hno <;> cases hno
            omega
          · split at hno <;> cases hno
            omega
      repeat' (first
    | (refine H_cons ?_; simp [h1, hp1, hpe, hpe2, hd, he, hpb, hpb2, hpb3])
    | (refine H_nil ?_; simp [h1, hp1, hpe, hpe2, hd, he, hpb, hpb2, hpb3])
    | (refine ⟨by omega, ?_⟩)
    | (refine V_sseq ?_; simp [h1, hp1, hpe, hpe2, hd, he, hpb, hpb2, hpb3])
    | (refine V_scond ?_; simp [h1, hp1, hpe, hpe2, hd, he, hpb, hpb2, hpb3])
    | (refine V_sblock ?_; simp [h1, hp1, hpe, hpe2, hd, he, hpb, hpb2, hpb3])
    | (refine V_ret ?_; simp only [RunK])
    | (refine V_skip ?_; simp only [RunK])
    | (refine CallP.fun_ (hsp) (by first | rfl | fail) (by first | assumption | (simp; done) | fail) (by first | (simp [h1, hp1, hpe, hpe2, hd, he, hpb, hpb2, hpb3]; done) | (simp [h1, hp1, hpe, hpe2, hd, he, hpb, hpb2, hpb3]; rfl) | fail) (by first | (simp; done) | fail) (fun d hd => ?_); subst hd; (try simp [h1, hp1, hpe, hpe2, hd, he, hpb, hpb2, hpb3]))
    | (refine CallP.fun_ (hnx) (by first | rfl | fail) (by first | assumption | (simp; done) | fail) (by first | (simp [h1, hp1, hpe, hpe2, hd, he, hpb, hpb2, hpb3]; done) | (simp [h1, hp1, hpe, hpe2, hd, he, hpb, hpb2, hpb3]; rfl) | fail) (by first | (simp; done) | fail) (fun d hd => ?_); subst hd; (try simp [h1, hp1, hpe, hpe2, hd, he, hpb, hpb2, hpb3]))
    | fail)
      refine EndW.norm (EndW.here ?_)
      (refine EndOK.val (.inr rfl) ?_; simp [resD, oneOrTup, pureD, Tryd.results66, frz_obs, frz_env, norm_obs, norm_env, frz, frzOb, frzS, fv, fzVec, fzMap, fzBox, frzObS, frz_entD, frz_rowsD, normD, normU, norm1, normOb])
      rw [h4]
      simp [prepE, lexOut]
    | ok t =>
      rw [hno] at h4 hnx
      obtain ⟨ht1, ht2⟩ := nextO_text hno
      simp only [List.length_cons] at ht2
      have hap : tokR acc ++ [[D.u (.int .i64 t.kind), D.u (.str t.text), D.u (.int .i64 t.n), D.u (.int .i64 ((p : Int) + b))]] = tokR (acc ++ [{ t with pos := ((p + b : Nat) : Int) }]) := by simp [tokR]
      have hlr : lenR 4 (tokR acc) := fun r hr => by obtain ⟨t, _, rfl⟩ := List.mem_map.1 hr; rfl
      repeat' (first
    | (refine H_cons ?_; simp [h1, hp1, hpe, hpe2, hd, hpb, hpb2, hpb3, tokR_len, hap, hlr])
    | (refine H_nil ?_; simp [h1, hp1, hpe, hpe2, hd, hpb, hpb2, hpb3, tokR_len, hap, hlr])
    | (refine ⟨by omega, ?_⟩)
    | (refine V_sseq ?_; simp [h1, hp1, hpe, hpe2, hd, hpb, hpb2, hpb3, tokR_len, hap, hlr])
    | (refine V_scond ?_; simp [h1, hp1, hpe, hpe2, hd, hpb, hpb2, hpb3, tokR_len, hap, hlr])
    | (refine V_sblock ?_; simp [h1, hp1, hpe, hpe2, hd, hpb, hpb2, hpb3, tokR_len, hap, hlr])
    | (refine V_sregion ?_; simp [h1, hp1, hpe, hpe2, hd, hpb, hpb2, hpb3, tokR_len, hap, hlr])
    | (refine V_skip ?_; simp only [RunK])
    | (refine CallP.fun_ (hsp) (by first | rfl | fail) (by first | assumption | (simp; done) | fail) (by first | (simp [h1, hp1, hpe, hpe2, hd, hpb, hpb2, hpb3, tokR_len, hap, hlr]; done) | (simp [h1, hp1, hpe, hpe2, hd, hpb, hpb2, hpb3, tokR_len, hap, hlr]; rfl) | fail) (by first | (simp; done) | fail) (fun d hd => ?_); subst hd; (try simp [h1, hp1, hpe, hpe2, hd, hpb, hpb2, hpb3, tokR_len, hap, hlr]))
    | (refine CallP.fun_ (hnx) (by first | rfl | fail) (by first | assumption | (simp; done) | fail) (by first | (simp [h1, hp1, hpe, hpe2, hd, hpb, hpb2, hpb3, tokR_len, hap, hlr]; done) | (simp [h1, hp1, hpe, hpe2, hd, hpb, hpb2, hpb3, tokR_len, hap, hlr]; rfl) | fail) (by first | (simp; done) | fail) (fun d hd => ?_); subst hd; (try simp [h1, hp1, hpe, hpe2, hd, hpb, hpb2, hpb3, tokR_len, hap, hlr]))
    | fail)
      refine LoopW.next ⟨(acc ++ [{ t with pos := ((p + b : Nat) : Int) }], p + b + t.text.length, f'), by simp; omega, by simp; omega, by simp; omega, ?_⟩ (by simp) ?_
      · rw [h4]
        simp only
        cases lexF f' s (p + b + t.text.length) <;> simp [prepE]
      · skip
        exact (Wk.ren ((fun i => if i = 0 then 3 else i)) rfl (by first | (simp [hn]; done) | (intro i hi; rw [hn] at hi; constructor <;> (try simp) <;> (try (intro _)) <;> omega)) (by simp [wkER, St.lp, keepE, getK_cons, getK, getK_del, getK_setOb, D.under, D.le, D.ren, pure_tokR, under_tokR] <;> (try (intros; simp_all; done)) <;> (try omega)) (by simp [wkR, St.lp, getK_cons, getK, getK_del, getK_setOb, obR, leU, pureRow, pureRows, Ob.under, D.under, D.le, D.ren, pure_tokR, under_tokR] <;> (try (intros; simp_all; done)) <;> (try omega)) (by simp [pure_tokR, under_tokR]))
end Go.Proofs.YtfcopibncpkdoaaDoor
namespace Go.Proofs.YtfcopibncpkdoaaDoor
open Go Go.VL
abbrev toksU (l : List Tok) : U := .sl (l.map fun t => [.int .i64 t.kind, .str t.text, .int .i64 t.n, .int .i64 t.pos])
abbrev pOb (l : List Tok) (p : Nat) : Ob := .box [.u (toksU l), .u (.int .i64 p)]
abbrev pRow (l : List Tok) (p : Nat) : U := .row [toksU l, .int .i64 p] 0
/-- Tokens as Lex makes them: the end comes last, and nowhere else. -/
structure TokOK (l : List Tok) : Prop where
  fin : ∀ (i : Nat) (t : Tok), l[i]? = some t → t.kind ≠ 0 → i + 1 < l.length
  len : l.length ≤ 1000000
def isB (l : List Tok) (p : Nat) (w : List UInt8) : Bool := match l[p]? with | some t => decide (t.kind ≠ 0) && decide (t.text = w) | none => false
theorem isB_lt {l : List Tok} {p : Nat} {w : List UInt8} (hl : TokOK l) (h : isB l p w = true) : p + 1 < l.length := by
  unfold isB at h
  split at h
  · rename_i t ht
    simp only [Bool.and_eq_true, decide_eq_true_eq] at h
    exact hl.fin p t ht h.1
  · cases h
attribute [local simp] HS hcons hstep evPure opd uOf putOK St.put St.at getK binD binI binS binB nilD aggD eqUs cmpK lookD lookR rangeD nextD entryD keyD valU keyU lookK mkV entD_nil lookK_entD updK_entD1 updK_entD3 allUE allUE_entD makeMapD mapUpdD mapEff updK valM Key.kk shiftI arith unD convD pickD loadD cellsAt fieldAddrD fieldD indexAddrD indexD sliceD cutD lenD minmaxD nilCheckD buildD fillD cellsD isOne ones setAll mkAgg allU allocD boxD storeD St.add buildSliceD appendD rowsOf makeD setOb getK_setOb getK_del getK_cons stripL strip guardTmp entry chunks zcells valD argsV argsW argW argU1 argU0 argsU0 argsU1 calleeOf scalarD scalarU delAll effD St.effS RK_seq RK_seq_ret RK_seq_exit RK_blk RK_blk_ret RK_blk_exit RK_loop RK_loop_ret RK_loop_exit RK_done vs_seq vs_block vs_cond vs_region vs_loop vs_draw applyW mkD rdIds lentIds callOf calleeOf freeOp D.ids Op.operands Call.operands isEffOp makeIfD typeAssertD conc concs conc1 uOfV panicD IntKind.bits allU2 allU2_append List.take_of_length_le List.range_succ
attribute [local irreducible] V G H HD HD2 HD4 HD4h RetX RunK Eff CallP CallV EndOK Fun Ret FinOK LoopI LoopW EndW
theorem pnext_fun (l : List Tok) (p : Nat) (t : Tok) (hp : l[p]? = some t) (hl : l.length ≤ 1000000) : Fun Tryd.prog 43 [.u (pRow l p)] (· = .u (.agg [.int .i64 t.kind, .str t.text, .int .i64 t.n, .int .i64 t.pos])) := by
  have hlt := (List.getElem?_eq_some_iff.1 hp).1
  unfold pRow toksU
  (refine Fun.of_body Tryd.func43 rfl (by simp) fun Γ hn => ?_); simp only [entry, List.zipIdx_cons, List.zipIdx_nil, List.map_cons, List.map_nil, Nat.zero_add, Tryd.ntmps43]
  repeat' (first
    | (refine H_cons ?_; simp [hp])
    | (refine HD4_val rfl ?_; simp [hp])
    | (refine HD4_chg rfl ?_; simp [hp])
    | (refine H_nil ?_; simp [hp])
    | (refine V_sseq ?_; simp [hp])
    | (refine HD4_nil (hC _ (by kernel_rfl)) (hk _ ?_); clear hC hk C k; simp only [RunK])
    | (refine V_drawX rfl (by kernel_rfl) (by first | (simp [hn]; done) | (simp [hn]; omega) | fail) fun C k hC hk => ?_; simp [hp])
    | (refine V_ret ?_; simp only [RunK])
    | fail)
  (refine EndOK.val (.inr rfl) ?_; simp [resD, oneOrTup, pureD, Tryd.results43])
theorem is_fun (l : List Tok) (p : Nat) (w : List UInt8) (hp : p < l.length) (hl : l.length ≤ 1000000) : Fun Tryd.prog 71 [.u (pRow l p), .u (.str w)] (· = .u (.bool (isB l p w))) := by
  obtain ⟨t, ht⟩ : ∃ t, l[p]? = some t := ⟨_, List.getElem?_eq_getElem hp⟩
  have hnx := pnext_fun l p t ht hl
  unfold isB
  rw [ht]
  unfold pRow toksU at *
  by_cases h1 : t.kind = 0
  · (refine Fun.of_body Tryd.func71 rfl (by simp) fun Γ hn => ?_); simp only [entry, List.zipIdx_cons, List.zipIdx_nil, List.map_cons, List.map_nil, Nat.zero_add, Tryd.ntmps71]
    repeat' (first
    | (refine H_cons ?_; simp [h1])
    | (refine H_nil ?_; simp [h1])
    | (refine V_sseq ?_; simp [h1])
    | (refine V_ret ?_; simp only [RunK])
    | (refine CallP.fun_ (hnx) (by first | rfl | fail) (by first | assumption | (simp; done) | fail) (by first | (simp [h1]; done) | (simp [h1]; rfl) | fail) (by first | (simp; done) | fail) (fun d hd => ?_); subst hd; (try simp [h1]))
    | fail)
    all_goals
      (refine EndOK.val (.inr rfl) ?_; simp [resD, oneOrTup, pureD, Tryd.results71])
    all_goals simp [h1]
  · (refine Fun.of_body Tryd.func71 rfl (by simp) fun Γ hn => ?_); simp only [entry, List.zipIdx_cons, List.zipIdx_nil, List.map_cons, List.map_nil, Nat.zero_add, Tryd.ntmps71]
    repeat' (first
    | (refine H_cons ?_; simp [h1])
    | (refine H_nil ?_; simp [h1])
    | (refine V_sseq ?_; simp [h1])
    | (refine V_ret ?_; simp only [RunK])
    | (refine CallP.fun_ (hnx) (by first | rfl | fail) (by first | assumption | (simp; done) | fail) (by first | (simp [h1]; done) | (simp [h1]; rfl) | fail) (by first | (simp; done) | fail) (fun d hd => ?_); subst hd; (try simp [h1]))
    | fail)
    all_goals
      (refine EndOK.val (.inr rfl) ?_; simp [resD, oneOrTup, pureD, Tryd.results71])
    all_goals simp [h1]
theorem has_ret (l : List Tok) (p : Nat) (w : List UInt8) (i nx : Nat) (hi : i < nx) (hp : p < l.length) (hl : l.length ≤ 1000000) :
    RetX Tryd.prog 96 [.ptr i 0, .u (.str w)] [(i, pOb l p)] nx (fun r o n => r = .val (.u (.bool (isB l p w))) ∧ o = [(i, pOb l (if isB l p w = true then p + 1 else p))] ∧ n = nx) := by
  have h1 := is_fun l p w hp hl
  unfold pOb pRow toksU at *
  cases hb : isB l p w with
  | false =>
    rw [hb] at h1
    (refine RetX.of_bodyW Tryd.func96 rfl (by simp) fun Γ hn hpan => ?_); simp only [entry, List.zipIdx_cons, List.zipIdx_nil, List.map_cons, List.map_nil, Nat.zero_add, Tryd.ntmps96]
    repeat' (first
    | (refine H_cons ?_; simp)
    | (refine H_nil ?_; simp)
    | (refine V_sseq ?_; simp)
    | (refine V_scond ?_; simp)
    | (refine V_ret ?_; simp only [RunK])
    | (refine CallP.fun_ (h1) (by first | rfl | fail) (by first | assumption | (simp; done) | fail) (by first | (simp; done) | (simp; rfl) | fail) (by first | (simp; done) | fail) (fun d hd => ?_); subst hd; (try simp))
    | fail)
    (refine EndW.here ?_; (first | (refine EndOK.fin (.inr rfl) ?_) | (refine EndOK.fin (.inl rfl) ?_)); simp [resD, oneOrTup, Tryd.results96]; refine FinOK.here (by simp) ?_; try simp)
  | true =>
    rw [hb] at h1
    (refine RetX.of_bodyW Tryd.func96 rfl (by simp) fun Γ hn hpan => ?_); simp only [entry, List.zipIdx_cons, List.zipIdx_nil, List.map_cons, List.map_nil, Nat.zero_add, Tryd.ntmps96]
    repeat' (first
    | (refine H_cons ?_; simp)
    | (refine H_nil ?_; simp)
    | (refine ⟨by omega, ?_⟩)
    | (refine V_sseq ?_; simp)
    | (refine V_scond ?_; simp)
    | (refine V_ret ?_; simp only [RunK])
    | (refine V_skip ?_; simp only [RunK])
    | (refine CallP.fun_ (h1) (by first | rfl | fail) (by first | assumption | (simp; done) | fail) (by first | (simp; done) | (simp; rfl) | fail) (by first | (simp; done) | fail) (fun d hd => ?_); subst hd; (try simp))
    | fail)
    (refine EndW.here ?_; (first | (refine EndOK.fin (.inr rfl) ?_) | (refine EndOK.fin (.inl rfl) ?_)); simp [resD, oneOrTup, Tryd.results96]; refine FinOK.here (by simp) ?_; try simp)
/-- The panic of a stop. -/
def chP (pos e : Int) : List PanicEntry := [{ v := .iface 119 (.agg #[.int .i64 pos, .int .i64 e]), recovered := false }]
def isP (l : List Tok) (ob : Ob) : Prop := ∃ q : Nat, ob = pOb l q
theorem check_ok (l : List Tok) (p : Nat) (e : Int) (i nx : Nat) (hi : i < nx) :
    RetX Tryd.prog 42 [.ptr i 0, .u (.bool true), .u (.int .i64 e)] [(i, pOb l p)] nx (fun r o n => r = .val (.tup []) ∧ o = [(i, pOb l p)] ∧ n = nx) := by
  (refine RetX.of_bodyW Tryd.func42 rfl (by simp) fun Γ hn hpan => ?_); simp only [entry, List.zipIdx_cons, List.zipIdx_nil, List.map_cons, List.map_nil, Nat.zero_add, Tryd.ntmps42]
  repeat' (first
    | (refine H_cons ?_; simp)
    | (refine H_nil ?_; simp)
    | (refine V_sseq ?_; simp)
    | (refine V_scond ?_; simp)
    | (refine V_skip ?_; simp only [RunK])
    | fail)
  (refine EndW.here ?_; (first | (refine EndOK.fin (.inr rfl) ?_) | (refine EndOK.fin (.inl rfl) ?_)); simp [resD, oneOrTup, Tryd.results42]; refine FinOK.here (by simp) ?_; try simp)
theorem check_pan (l : List Tok) (p : Nat) (t : Tok) (e : Int) (i nx : Nat) (hi : i < nx) (hp : l[p]? = some t) (hl : l.length ≤ 1000000) :
    RetX Tryd.prog 42 [.ptr i 0, .u (.bool false), .u (.int .i64 e)] [(i, pOb l p)] nx (fun r o n => r = .pan (chP t.pos e) ∧ (∃ ob', isP l ob' ∧ o = [(i, ob')]) ∧ n = nx) := by
  have h1 := pnext_fun l p t hp hl
  (refine RetX.of_bodyW Tryd.func42 rfl (by simp) fun Γ hn hpan => ?_); simp only [entry, List.zipIdx_cons, List.zipIdx_nil, List.map_cons, List.map_nil, Nat.zero_add, Tryd.ntmps42]
  repeat' (first
    | (refine H_cons ?_; simp)
    | (refine H_nil ?_; simp)
    | (refine V_sseq ?_; simp)
    | (refine V_scond ?_; simp)
    | (refine V_sregion ?_; simp)
    | (refine CallP.fun_ (h1) (by first | rfl | fail) (by first | assumption | (simp; done) | fail) (by first | (simp; done) | (simp; rfl) | fail) (by first | (simp; done) | fail) (fun d hd => ?_); subst hd; (try simp))
    | fail)
  all_goals
    (refine hpan _ _ ⟨{ n := _, env := [], obs := [(i, pOb l p)], next := nx }, (Wk.cut rfl (by simp [hn]) (by simp [wkO, getK_cons, getK, getK_append, getK_del, Ob.under, D.under, under_rowsD, under_entD, hi]) (by simp [wkU, keepE, getK_cons, getK, D.under, hi]) (by simp [wkE, keepE, getK_cons, getK, hi])), by simp [hn], ?_⟩; try simp)
    all_goals exact ⟨rfl, p, rfl⟩
inductive PR (α : Type) where
  | ok (a : α) (p : Nat)
  | stop (pos e : Int)
def posAt (l : List Tok) (p : Nat) : Int := match l[p]? with | some t => t.pos | none => 0
def wantP (l : List Tok) : Nat → List (List UInt8) → PR Unit
  | p, [] => .ok () p
  | p, w :: ws => if isB l p w = true then wantP l (p + 1) ws else .stop (posAt l p) 12
def PPost {α : Type} (l : List Tok) (i nx : Nat) (val : α → D) : PR α → Out → List (Nat × Ob) → Nat → Prop
  | .ok a q, o, obs, n => o = .val (val a) ∧ obs = [(i, pOb l q)] ∧ n = nx
  | .stop pos e, o, obs, n => o = .pan (chP pos e) ∧ (∃ ob', isP l ob' ∧ obs = [(i, ob')]) ∧ n = nx
theorem want_ret (l : List Tok) (p : Nat) (ws : List (List UInt8)) (i nx : Nat) (hi : i < nx) (hp : p < l.length) (hl : TokOK l) (hw : ws.length ≤ 100) :
    RetX Tryd.prog 97 [.ptr i 0, .u (.sl (ws.map fun w => [.str w]))] [(i, pOb l p)] nx (PPost l i nx (fun _ => .tup []) (wantP l p ws)) := by
  (refine RetX.of_bodyW Tryd.func97 rfl (by simp) fun Γ hn hpan => ?_); simp only [entry, List.zipIdx_cons, List.zipIdx_nil, List.map_cons, List.map_nil, Nat.zero_add, Tryd.ntmps97]
  repeat' (first
    | (refine H_cons ?_; simp)
    | (refine H_nil ?_; simp)
    | (refine V_sseq ?_; simp)
    | (refine V_sblock ?_; simp)
    | fail)
  refine V_loopO (α := { x : Nat × Nat // x.1 ≤ ws.length ∧ x.2 < l.length ∧ wantP l p ws = wantP l x.2 (ws.drop x.1) }) [0, 6, 7] (fun x => [(8, .u (.int .i64 x.1.1))]) (fun x => [(i, pOb l x.1.2)]) nx (fun x => ws.length - x.1.1) ⟨(0, p), by simp, hp, by simp⟩ ?_ ?_
  · exact (Wk.cut rfl (by simp [hn, St.lp]) (by simp [wkO, St.lp, getK_cons, getK, Ob.under, D.under, under_rowsD, under_entD, hi]) (by simp [wkU, St.lp, keepE, getK_cons, getK, D.under, hi]) (by simp [wkE, St.lp, keepE, getK_cons, getK, hi] <;> (try (intros; simp_all; done)) <;> (try (intros; omega)) <;> (try grind)))
  rintro ⟨⟨k, q⟩, h1, h2, h3⟩
  simp only at h1 h2 h3
  simp [St.lp, St.only, keepE, getK_cons, getK]
  rcases hx : ws[k]? with _ | w
  · have hge : ws.length ≤ k := by simpa using hx
    obtain rfl : k = ws.length := by omega
    rw [List.drop_length, wantP] at h3
    repeat' (first
    | (refine H_cons ?_; simp [hx])
    | (refine H_nil ?_; simp [hx])
    | (refine V_sseq ?_; simp [hx])
    | (refine V_exit ?_; simp [RunK])
    | fail)
    rw [h3]
    (refine EndW.here ?_; (first | (refine EndOK.fin (.inr rfl) ?_) | (refine EndOK.fin (.inl rfl) ?_)); simp [resD, oneOrTup, Tryd.results97]; refine FinOK.here (by simp) ?_; try simp)
    simp [PPost]
  · have hlt : k < ws.length := (List.getElem?_eq_some_iff.1 hx).1
    have hd : ws.drop k = w :: ws.drop (k + 1) := by
      obtain ⟨h5, h6⟩ := List.getElem?_eq_some_iff.1 hx
      rw [← h6, List.getElem_cons_drop]
    rw [hd, wantP] at h3
    have hh := has_ret l q w i nx hi h2 hl.len
    by_cases hb : isB l q w = true
    · rw [if_pos hb] at h3
      rw [hb, if_pos rfl] at hh
      have hq := isB_lt hl hb
      have hck := check_ok l (q + 1) 12 i nx hi
      repeat' (first
    | (refine H_cons ?_; simp [hx])
    | (refine H_nil ?_; simp [hx])
    | (refine ⟨by omega, ?_⟩)
    | (refine V_sseq ?_; simp [hx])
    | (refine V_sregion ?_; simp [hx])
    | (refine V_skip ?_; simp only [RunK])
    | (refine ⟨?_, by omega⟩)
    | (intro hc <;> (try (exfalso; omega)))
    | (refine CallP.ok1 (hh) (by first | (simp [hx, getK_cons, getK, getK_append, getK_del]; done) | fail) (by rfl) (by first | assumption | (simp; done) | fail) (by rfl) (by simp) ?_; (try simp [hx]))
    | (refine CallP.ok1 (hck) (by first | (simp [hx, getK_cons, getK, getK_append, getK_del]; done) | fail) (by rfl) (by first | assumption | (simp; done) | fail) (by rfl) (by simp) ?_; (try simp [hx]))
    | fail)
      refine LoopW.next ⟨(k + 1, q + 1), by omega, hq, h3⟩ (by simp; omega) ?_
      exact (Wk.cut rfl (by simp [hn, St.lp]) (by simp [wkO, St.lp, getK_cons, getK, Ob.under, D.under, under_rowsD, under_entD, hi, getK_append, getK_del, getK_cons, getK]) (by simp [wkU, St.lp, keepE, getK_cons, getK, D.under, hi, getK_append, getK_del, getK_cons, getK]) (by simp [wkE, St.lp, keepE, getK_cons, getK, hi, getK_append, getK_del, getK_cons, getK] <;> (try (intros; simp_all; done)) <;> (try (intros; omega)) <;> (try grind)))
    · have hb2 : isB l q w = false := by simpa using hb
      rw [if_neg hb] at h3
      rw [hb2, if_neg (by simp)] at hh
      obtain ⟨t, ht⟩ : ∃ t, l[q]? = some t := ⟨_, List.getElem?_eq_getElem h2⟩
      have hck := check_pan l q t 12 i nx hi ht hl.len
      repeat' (first
    | (refine H_cons ?_; simp [hx])
    | (refine H_nil ?_; simp [hx])
    | (refine V_sseq ?_; simp [hx])
    | (refine V_sregion ?_; simp [hx])
    | (refine V_skip ?_; simp only [RunK])
    | (refine ⟨?_, by omega⟩)
    | (intro hc <;> (try (exfalso; omega)))
    | (refine CallP.ok1 (hh) (by first | (simp [hx, getK_cons, getK, getK_append, getK_del]; done) | fail) (by rfl) (by first | assumption | (simp; done) | fail) (by rfl) (by simp) ?_; (try simp [hx]))
    | (refine CallP.pan1 (hck) (by first | (simp [hx, getK_cons, getK, getK_append, getK_del]; done) | fail) (by rfl) (by first | assumption | (simp; done) | fail) (by rfl) (by simp) ?_; rintro ob' ⟨q', rfl⟩; refine ⟨_, Wk.refl _, ?_⟩)
    | fail)
      rw [h3] at hpan
      (refine hpan _ _ ⟨{ n := _, env := [], obs := [(i, pOb l q')], next := nx }, (Wk.cut rfl (by simp [hn]) (by simp [wkO, getK_cons, getK, getK_append, getK_del, Ob.under, D.under, under_rowsD, under_entD, hi, getK_append, getK_del, getK_cons, getK]) (by simp [wkU, keepE, getK_cons, getK, D.under, hi, getK_append, getK_del, getK_cons, getK]) (by simp [wkE, keepE, getK_cons, getK, hi, getK_append, getK_del, getK_cons, getK])), by simp [hn], ?_⟩; try simp)
      all_goals exact ⟨by simp [posAt, ht], ⟨_, ⟨q', rfl⟩, rfl⟩, rfl⟩
end Go.Proofs.YtfcopibncpkdoaaDoor
namespace Go.Proofs.YtfcopibncpkdoaaDoor
open Go Go.VL
def PR.bind {α β : Type} : PR α → (α → Nat → PR β) → PR β
  | .ok a p, f => f a p
  | .stop pos e, _ => .stop pos e
theorem PR.bind_ok {α β : Type} {a : α} {p : Nat} {f : α → Nat → PR β} : (PR.ok a p).bind f = f a p := rfl
theorem PR.bind_out {α β : Type} {r : PR α} {f : α → Nat → PR β} {b : β} {q : Nat} (h : r.bind f = .ok b q) : ∃ a p, r = .ok a p ∧ f a p = .ok b q := by
  cases r with
  | ok a p => exact ⟨a, p, rfl, h⟩
  | stop => cases h
theorem PPost.at_ok {α : Type} {l i nx} {val : α → D} {r : PR α} {a : α} {q : Nat} (h : r = .ok a q) {d : D} (hd : d = val a) {o : List (Nat × Ob)} (ho : o = [(i, pOb l q)]) : PPost l i nx val r (.val d) o nx := by
  subst h; subst hd; subst ho; exact ⟨rfl, rfl, rfl⟩
theorem PPost.at_stop {α : Type} {l i nx} {val : α → D} {r : PR α} {pos e : Int} {q : Nat} (h : r = .stop pos e) : PPost l i nx val r (.pan (chP pos e)) [(i, pOb l q)] nx := by
  subst h; exact ⟨rfl, ⟨_, ⟨q, rfl⟩, rfl⟩, rfl⟩
structure Opr where
  text : List UInt8
  op : Int
  form : Int
def oprs : List Opr := [⟨[111, 114], 11, 1⟩, ⟨[97, 110, 100], 10, 2⟩, ⟨[61, 61], 9, 4⟩, ⟨[60], 8, 4⟩, ⟨[43], 2, 5⟩, ⟨[45], 3, 5⟩, ⟨[42], 4, 6⟩, ⟨[47], 5, 6⟩]
def oprAt (l : List Tok) (p : Nat) : Option Opr := oprs.find? fun o => isB l p o.text
def unitP (l : List Tok) (p : Nat) : PR Int :=
  if isB l p [99, 111, 105, 110, 115] = true then .ok 3 (p + 1)
  else if isB l p [100, 97, 121, 115] = true then .ok 2 (p + 1)
  else if isB l p [112, 101, 114] = true then (wantP l (p + 1) [[109, 105, 108, 108, 101]]).bind fun _ q => .ok 4 q
  else .ok 1 p
mutual
def expP (l : List Tok) : Nat → Nat → Int → PR Exp
  | 0, _, _ => .stop 0 0
  | f + 1, p, form => (prefixP l f p form).bind fun e q => loopP l f form e.1 e.2 q
def loopP (l : List Tok) : Nat → Int → Exp → Int → Nat → PR Exp
  | 0, _, _, _, _ => .stop 0 0
  | f + 1, form, e, own, q => match oprAt l q with
    | none => .ok e q
    | some x => if x.form < form ∨ own < x.form ∨ (own = 4 ∧ x.form = 4) then .ok e q
      else (expP l f (q + 1) (x.form + 1)).bind fun e2 r => loopP l f form (.mk x.op 0 0 [] [e, e2]) x.form r
def prefixP (l : List Tok) : Nat → Nat → Int → PR (Exp × Int)
  | 0, _, _ => .stop 0 0
  | f + 1, p, form =>
    if form = 0 ∧ isB l p [105, 102] = true then
      (expP l f (p + 1) 0).bind fun a q1 => (wantP l q1 [[116, 104, 101, 110]]).bind fun _ q2 => (expP l f q2 0).bind fun b q3 =>
      (wantP l q3 [[101, 108, 115, 101]]).bind fun _ q4 => (expP l f q4 0).bind fun c q5 => .ok (.mk 13 0 0 [] [a, b, c], 0) q5
    else if form ≤ 3 ∧ isB l p [110, 111, 116] = true then (expP l f (p + 1) 3).bind fun a q => .ok (.mk 12 0 0 [] [a], 3) q
    else (primaryP l f p).bind fun e q => .ok (e, 7) q
def primaryP (l : List Tok) : Nat → Nat → PR Exp
  | 0, _ => .stop 0 0
  | f + 1, p => match l[p]? with
    | none => .stop 0 0
    | some t =>
      if t.kind = 2 then (unitP l (p + 1)).bind fun u q => .ok (.mk 0 t.n u [] []) q
      else if isB l p [116, 114, 117, 101] = true then .ok (.mk 0 1 0 [] []) (p + 1)
      else if isB l p [102, 97, 108, 115, 101] = true then .ok (.mk 0 0 0 [] []) (p + 1)
      else if isB l p [109, 105, 110] = true ∨ isB l p [109, 97, 120] = true then
        (wantP l (p + 1) [[40]]).bind fun _ q1 => (expP l f q1 0).bind fun a q2 => (wantP l q2 [[44]]).bind fun _ q3 => (expP l f q3 0).bind fun b q4 =>
        (wantP l q4 [[41]]).bind fun _ q5 => .ok (.mk (if isB l p [109, 97, 120] = true then 7 else 6) 0 0 [] [a, b]) q5
      else if isB l p [40] = true then (expP l f (p + 1) 0).bind fun e q1 => (wantP l q1 [[41]]).bind fun _ q2 => .ok e q2
      else if t.kind = 1 ∧ nameB t.text = true then .ok (.mk 1 0 0 t.text []) (p + 1)
      else .stop t.pos 12
end
theorem wantP_le {l : List Tok} (hl : TokOK l) : ∀ (ws : List (List UInt8)) {p q : Nat}, wantP l p ws = .ok () q → p < l.length → p ≤ q ∧ q < l.length
  | [], p, q, h, hp => by rw [wantP] at h; cases h; exact ⟨Nat.le_refl _, hp⟩
  | w :: ws, p, q, h, hp => by
    rw [wantP] at h
    split at h
    · rename_i hb
      have := wantP_le hl ws h (isB_lt hl hb)
      exact ⟨by omega, this.2⟩
    · cases h
theorem unitP_le {l : List Tok} (hl : TokOK l) {p q : Nat} {u : Int} (h : unitP l p = .ok u q) (hp : p < l.length) : p ≤ q ∧ q < l.length := by
  unfold unitP at h
  split at h
  · rename_i hb; cases h; exact ⟨by omega, isB_lt hl hb⟩
  · split at h
    · rename_i hb; cases h; exact ⟨by omega, isB_lt hl hb⟩
    · split at h
      · rename_i hb
        obtain ⟨a, r, h1, h2⟩ := PR.bind_out h
        cases h2
        have := wantP_le hl _ h1 (isB_lt hl hb)
        exact ⟨by omega, this.2⟩
      · cases h; exact ⟨by omega, hp⟩
theorem parse_le {l : List Tok} (hl : TokOK l) : ∀ (f : Nat),
    (∀ p form e q, expP l f p form = .ok e q → p < l.length → p ≤ q ∧ q < l.length) ∧
    (∀ form e own p e' q, loopP l f form e own p = .ok e' q → p < l.length → p ≤ q ∧ q < l.length) ∧
    (∀ p form e q, prefixP l f p form = .ok e q → p < l.length → p ≤ q ∧ q < l.length) ∧
    (∀ p e q, primaryP l f p = .ok e q → p < l.length → p ≤ q ∧ q < l.length)
  | 0 => ⟨fun _ _ _ _ h => by simp [expP] at h, fun _ _ _ _ _ _ h => by simp [loopP] at h, fun _ _ _ _ h => by simp [prefixP] at h, fun _ _ _ h => by simp [primaryP] at h⟩
  | f + 1 => by
    obtain ⟨he, hlo, hpr, hpm⟩ := parse_le hl f
    refine ⟨fun p form e q h hp => ?_, fun form e own p e' q h hp => ?_, fun p form e q h hp => ?_, fun p e q h hp => ?_⟩
    · rw [expP] at h
      obtain ⟨a, r, h1, h2⟩ := PR.bind_out h
      have g1 := hpr _ _ _ _ h1 hp
      have g2 := hlo _ _ _ _ _ _ h2 g1.2
      exact ⟨by omega, g2.2⟩
    · rw [loopP] at h
      split at h
      · cases h; exact ⟨by omega, hp⟩
      · rename_i x hx
        have hb := List.find?_some hx
        have hp2 := isB_lt hl hb
        split at h
        · cases h; exact ⟨by omega, hp⟩
        · obtain ⟨a, r, h1, h2⟩ := PR.bind_out h
          have g1 := he _ _ _ _ h1 hp2
          have g2 := hlo _ _ _ _ _ _ h2 g1.2
          exact ⟨by omega, g2.2⟩
    · rw [prefixP] at h
      split at h
      · rename_i hb
        have hp2 := isB_lt hl hb.2
        obtain ⟨a, r, h1, h⟩ := PR.bind_out h
        have g1 := he _ _ _ _ h1 hp2
        obtain ⟨_, r2, h2, h⟩ := PR.bind_out h
        have g2 := wantP_le hl _ h2 g1.2
        obtain ⟨a, r3, h3, h⟩ := PR.bind_out h
        have g3 := he _ _ _ _ h3 g2.2
        obtain ⟨_, r4, h4, h⟩ := PR.bind_out h
        have g4 := wantP_le hl _ h4 g3.2
        obtain ⟨a, r5, h5, h⟩ := PR.bind_out h
        have g5 := he _ _ _ _ h5 g4.2
        cases h
        exact ⟨by omega, g5.2⟩
      · split at h
        · rename_i hb
          have hp2 := isB_lt hl hb.2
          obtain ⟨a, r, h1, h⟩ := PR.bind_out h
          have g1 := he _ _ _ _ h1 hp2
          cases h
          exact ⟨by omega, g1.2⟩
        · obtain ⟨a, r, h1, h⟩ := PR.bind_out h
          have g1 := hpm _ _ _ h1 hp
          cases h
          exact g1
    · rw [primaryP] at h
      split at h
      · cases h
      · rename_i t ht
        split at h
        · rename_i hk
          have hp2 := hl.fin p t ht (by omega)
          obtain ⟨a, r, h1, h⟩ := PR.bind_out h
          have g1 := unitP_le hl h1 hp2
          cases h
          exact ⟨by omega, g1.2⟩
        split at h
        · rename_i hb; cases h; exact ⟨by omega, isB_lt hl hb⟩
        split at h
        · rename_i hb; cases h; exact ⟨by omega, isB_lt hl hb⟩
        split at h
        · rename_i hb
          have hp2 : p + 1 < l.length := hb.elim (isB_lt hl) (isB_lt hl)
          obtain ⟨_, r2, h2, h⟩ := PR.bind_out h
          have g2 := wantP_le hl _ h2 hp2
          obtain ⟨a, r3, h3, h⟩ := PR.bind_out h
          have g3 := he _ _ _ _ h3 g2.2
          obtain ⟨_, r4, h4, h⟩ := PR.bind_out h
          have g4 := wantP_le hl _ h4 g3.2
          obtain ⟨a, r5, h5, h⟩ := PR.bind_out h
          have g5 := he _ _ _ _ h5 g4.2
          obtain ⟨_, r6, h6, h⟩ := PR.bind_out h
          have g6 := wantP_le hl _ h6 g5.2
          cases h
          exact ⟨by omega, g6.2⟩
        split at h
        · rename_i hb
          have hp2 := isB_lt hl hb
          obtain ⟨a, r3, h3, h⟩ := PR.bind_out h
          have g3 := he _ _ _ _ h3 hp2
          obtain ⟨_, r4, h4, h⟩ := PR.bind_out h
          have g4 := wantP_le hl _ h4 g3.2
          cases h
          exact ⟨by omega, g4.2⟩
        split at h
        · rename_i hk
          cases h
          exact ⟨by omega, hl.fin p t ht (by omega)⟩
        · cases h
end Go.Proofs.YtfcopibncpkdoaaDoor
namespace Go.Proofs.YtfcopibncpkdoaaDoor
open Go Go.VL
attribute [local simp] HS hcons hstep evPure opd uOf putOK St.put St.at getK binD binI binS binB nilD aggD eqUs cmpK lookD lookR rangeD nextD entryD keyD valU keyU lookK mkV entD_nil lookK_entD updK_entD1 updK_entD3 allUE allUE_entD makeMapD mapUpdD mapEff updK valM Key.kk shiftI arith unD convD pickD loadD cellsAt fieldAddrD fieldD indexAddrD indexD sliceD cutD lenD minmaxD nilCheckD buildD fillD cellsD isOne ones setAll mkAgg allU allocD boxD storeD St.add buildSliceD appendD rowsOf makeD setOb getK_setOb getK_del getK_cons stripL strip guardTmp entry chunks zcells valD argsV argsW argW argU1 argU0 argsU0 argsU1 calleeOf scalarD scalarU delAll effD St.effS RK_seq RK_seq_ret RK_seq_exit RK_blk RK_blk_ret RK_blk_exit RK_loop RK_loop_ret RK_loop_exit RK_done vs_seq vs_block vs_cond vs_region vs_loop vs_draw applyW mkD rdIds lentIds callOf calleeOf freeOp D.ids Op.operands Call.operands isEffOp makeIfD typeAssertD conc concs conc1 uOfV panicD IntKind.bits allU2 allU2_append List.take_of_length_le List.range_succ
attribute [local irreducible] V G H HD HD2 HD4 HD4h RetX RunK Eff CallP CallV EndOK Fun Ret FinOK LoopI LoopW EndW
abbrev expD (e : Exp) : D := .u (.agg e.row)
abbrev intD (n : Int) : D := .u (.int .i64 n)
theorem ne_facts {i nx : Nat} (h : i < nx) : ¬ i = nx ∧ ¬ nx = i ∧ (∀ k, ¬ i = nx + k) ∧ ∀ k, ¬ nx + k = i := ⟨by omega, by omega, fun k => by omega, fun k => by omega⟩
theorem unit_ret (l : List Tok) (p : Nat) (i nx : Nat) (hi : i < nx) (hp : p < l.length) (hl : TokOK l) :
    RetX Tryd.prog 115 [.ptr i 0] [(i, pOb l p)] nx (PPost l i nx intD (unitP l p)) := by
  have hne := ne_facts hi
  have hh1 := fun nx' (h : nx ≤ nx') => has_ret l p [99, 111, 105, 110, 115] i nx' (by omega) hp hl.len
  have hh2 := fun nx' (h : nx ≤ nx') => has_ret l p [100, 97, 121, 115] i nx' (by omega) hp hl.len
  have hh3 := fun nx' (h : nx ≤ nx') => has_ret l p [112, 101, 114] i nx' (by omega) hp hl.len
  unfold unitP
  by_cases h1 : isB l p [99, 111, 105, 110, 115] = true
  · simp only [h1, if_true] at hh1 ⊢
    (refine RetX.of_bodyW Tryd.func115 rfl (by simp) fun Γ hn hpan => ?_); simp only [entry, List.zipIdx_cons, List.zipIdx_nil, List.map_cons, List.map_nil, Nat.zero_add, Tryd.ntmps115]
    repeat' (first
    | (refine H_cons ?_; simp [hne])
    | (refine H_nil ?_; simp [hne])
    | (refine V_sseq ?_; simp [hne])
    | (refine V_scond ?_; simp [hne])
    | (refine V_ret ?_; simp only [RunK])
    | (refine CallP.ok1 (hh1 _ (by first | omega | (simp; done) | (simp; omega) | fail)) (by first | (simp [hne, getK_cons, getK, getK_append, getK_del]; done) | fail) (by rfl) (by first | assumption | (simp; done) | fail) (by rfl) (by simp) ?_; (try simp [hne]))
    | fail)
    (refine EndW.here ?_; (first | (refine EndOK.fin (.inr rfl) ?_) | (refine EndOK.fin (.inl rfl) ?_)); simp [resD, oneOrTup, Tryd.results115]; refine FinOK.here (by simp) ?_; try simp)
    exact PPost.at_ok rfl rfl (by first | rfl | simp [del])
  · simp only [h1, Bool.false_eq_true, if_false] at hh1 ⊢
    by_cases h2 : isB l p [100, 97, 121, 115] = true
    · simp only [h2, if_true] at hh2 ⊢
      (refine RetX.of_bodyW Tryd.func115 rfl (by simp) fun Γ hn hpan => ?_); simp only [entry, List.zipIdx_cons, List.zipIdx_nil, List.map_cons, List.map_nil, Nat.zero_add, Tryd.ntmps115]
      repeat' (first
    | (refine H_cons ?_; simp [hne])
    | (refine H_nil ?_; simp [hne])
    | (refine V_sseq ?_; simp [hne])
    | (refine V_scond ?_; simp [hne])
    | (refine V_ret ?_; simp only [RunK])
    | (refine CallP.ok1 (hh1 _ (by first | omega | (simp; done) | (simp; omega) | fail)) (by first | (simp [hne, getK_cons, getK, getK_append, getK_del]; done) | fail) (by rfl) (by first | assumption | (simp; done) | fail) (by rfl) (by simp) ?_; (try simp [hne]))
    | (refine CallP.ok1 (hh2 _ (by first | omega | (simp; done) | (simp; omega) | fail)) (by first | (simp [hne, getK_cons, getK, getK_append, getK_del]; done) | fail) (by rfl) (by first | assumption | (simp; done) | fail) (by rfl) (by simp) ?_; (try simp [hne]))
    | fail)
      (refine EndW.here ?_; (first | (refine EndOK.fin (.inr rfl) ?_) | (refine EndOK.fin (.inl rfl) ?_)); simp [resD, oneOrTup, Tryd.results115]; refine FinOK.here (by simp) ?_; try simp)
      exact PPost.at_ok rfl rfl (by first | rfl | simp [del])
    · simp only [h2, Bool.false_eq_true, if_false] at hh2 ⊢
      by_cases h3 : isB l p [112, 101, 114] = true
      · simp only [h3, if_true] at hh3 ⊢
        have hw := fun nx' (h : nx ≤ nx') => want_ret l (p + 1) [[109, 105, 108, 108, 101]] i nx' (by omega) (isB_lt hl h3) hl (by simp)
        cases hr : wantP l (p + 1) [[109, 105, 108, 108, 101]] with
        | ok a q =>
          simp only [hr, List.map_cons, List.map_nil] at hw
          (refine RetX.of_bodyW Tryd.func115 rfl (by simp) fun Γ hn hpan => ?_); simp only [entry, List.zipIdx_cons, List.zipIdx_nil, List.map_cons, List.map_nil, Nat.zero_add, Tryd.ntmps115]
          repeat' (first
    | (refine H_cons ?_; simp [hne])
    | (refine H_nil ?_; simp [hne])
    | (refine V_sseq ?_; simp [hne])
    | (refine V_scond ?_; simp [hne])
    | (refine V_ret ?_; simp only [RunK])
    | (refine CallP.ok1 (hh1 _ (by first | omega | (simp; done) | (simp; omega) | fail)) (by first | (simp [hne, getK_cons, getK, getK_append, getK_del]; done) | fail) (by rfl) (by first | assumption | (simp; done) | fail) (by rfl) (by simp) ?_; (try simp [hne]))
    | (refine CallP.ok1 (hh2 _ (by first | omega | (simp; done) | (simp; omega) | fail)) (by first | (simp [hne, getK_cons, getK, getK_append, getK_del]; done) | fail) (by rfl) (by first | assumption | (simp; done) | fail) (by rfl) (by simp) ?_; (try simp [hne]))
    | (refine CallP.ok1 (hh3 _ (by first | omega | (simp; done) | (simp; omega) | fail)) (by first | (simp [hne, getK_cons, getK, getK_append, getK_del]; done) | fail) (by rfl) (by first | assumption | (simp; done) | fail) (by rfl) (by simp) ?_; (try simp [hne]))
    | (refine CallP.ok1 (hw _ (by first | omega | (simp; done) | (simp; omega) | fail)) (by first | (simp [hne, getK_cons, getK, getK_append, getK_del]; done) | fail) (by rfl) (by first | assumption | (simp; done) | fail) (by rfl) (by simp) ?_; (try simp [hne]))
    | (refine CallP_frzV (by first | rfl | fail) ?_; simp [hne, frzN, frz1, frz_env, frz_obs, St.frz, St.frzS, frzS, fv, fzVec, fzMap, fzBox, frzObS, frz_entD, frz_rowsD, del, frz, frzOb])
    | fail)
          (refine EndW.wk { n := _, env := [(2, intD 4)], obs := [(i, pOb l q)], next := nx } (Wk.cut rfl (by simp [hn]) (by simp [wkO, getK_cons, getK, getK_append, getK_del, Ob.under, D.under, under_rowsD, under_entD, hne, hi]) (by simp [wkU, keepE, getK_cons, getK, D.under, hne, hi]) (by simp [wkE, keepE, getK_cons, getK, hne, hi])) (EndW.here ?_); (first | (refine EndOK.fin (.inr rfl) ?_) | (refine EndOK.fin (.inl rfl) ?_)); simp [resD, oneOrTup, Tryd.results115]; refine FinOK.here (by simp) ?_; try simp)
          exact PPost.at_ok rfl rfl (by first | rfl | simp [del])
        | stop pos e =>
          simp only [hr, List.map_cons, List.map_nil] at hw
          (refine RetX.of_bodyW Tryd.func115 rfl (by simp) fun Γ hn hpan => ?_); simp only [entry, List.zipIdx_cons, List.zipIdx_nil, List.map_cons, List.map_nil, Nat.zero_add, Tryd.ntmps115]
          repeat' (first
    | (refine H_cons ?_; simp [hne])
    | (refine H_nil ?_; simp [hne])
    | (refine V_sseq ?_; simp [hne])
    | (refine V_scond ?_; simp [hne])
    | (refine CallP.ok1 (hh1 _ (by first | omega | (simp; done) | (simp; omega) | fail)) (by first | (simp [hne, getK_cons, getK, getK_append, getK_del]; done) | fail) (by rfl) (by first | assumption | (simp; done) | fail) (by rfl) (by simp) ?_; (try simp [hne]))
    | (refine CallP.ok1 (hh2 _ (by first | omega | (simp; done) | (simp; omega) | fail)) (by first | (simp [hne, getK_cons, getK, getK_append, getK_del]; done) | fail) (by rfl) (by first | assumption | (simp; done) | fail) (by rfl) (by simp) ?_; (try simp [hne]))
    | (refine CallP.ok1 (hh3 _ (by first | omega | (simp; done) | (simp; omega) | fail)) (by first | (simp [hne, getK_cons, getK, getK_append, getK_del]; done) | fail) (by rfl) (by first | assumption | (simp; done) | fail) (by rfl) (by simp) ?_; (try simp [hne]))
    | (refine CallP.pan1 (hw _ (by first | omega | (simp; done) | (simp; omega) | fail)) (by first | (simp [hne, getK_cons, getK, getK_append, getK_del]; done) | fail) (by rfl) (by first | assumption | (simp; done) | fail) (by rfl) (by simp) ?_; rintro ob' ⟨q', rfl⟩; refine ⟨_, Wk.refl _, ?_⟩)
    | (refine CallP_frzV (by first | rfl | fail) ?_; simp [hne, frzN, frz1, frz_env, frz_obs, St.frz, St.frzS, frzS, fv, fzVec, fzMap, fzBox, frzObS, frz_entD, frz_rowsD, del, frz, frzOb])
    | fail)
          (refine hpan _ _ ⟨{ n := _, env := [], obs := [(i, pOb l q')], next := nx }, (Wk.cut rfl (by simp [hn]) (by simp [wkO, getK_cons, getK, getK_append, getK_del, Ob.under, D.under, under_rowsD, under_entD, hi, getK_append, getK_del, getK_cons, getK]) (by simp [wkU, keepE, getK_cons, getK, D.under, hi, getK_append, getK_del, getK_cons, getK]) (by simp [wkE, keepE, getK_cons, getK, hi, getK_append, getK_del, getK_cons, getK])), by simp [hn], ?_⟩; try simp)
          exact PPost.at_stop rfl
      · simp only [h3, Bool.false_eq_true, if_false] at hh3 ⊢
        (refine RetX.of_bodyW Tryd.func115 rfl (by simp) fun Γ hn hpan => ?_); simp only [entry, List.zipIdx_cons, List.zipIdx_nil, List.map_cons, List.map_nil, Nat.zero_add, Tryd.ntmps115]
        repeat' (first
    | (refine H_cons ?_; simp [hne])
    | (refine H_nil ?_; simp [hne])
    | (refine V_sseq ?_; simp [hne])
    | (refine V_scond ?_; simp [hne])
    | (refine V_ret ?_; simp only [RunK])
    | (refine V_skip ?_; simp only [RunK])
    | (refine CallP.ok1 (hh1 _ (by first | omega | (simp; done) | (simp; omega) | fail)) (by first | (simp [hne, getK_cons, getK, getK_append, getK_del]; done) | fail) (by rfl) (by first | assumption | (simp; done) | fail) (by rfl) (by simp) ?_; (try simp [hne]))
    | (refine CallP.ok1 (hh2 _ (by first | omega | (simp; done) | (simp; omega) | fail)) (by first | (simp [hne, getK_cons, getK, getK_append, getK_del]; done) | fail) (by rfl) (by first | assumption | (simp; done) | fail) (by rfl) (by simp) ?_; (try simp [hne]))
    | (refine CallP.ok1 (hh3 _ (by first | omega | (simp; done) | (simp; omega) | fail)) (by first | (simp [hne, getK_cons, getK, getK_append, getK_del]; done) | fail) (by rfl) (by first | assumption | (simp; done) | fail) (by rfl) (by simp) ?_; (try simp [hne]))
    | fail)
        (refine EndW.here ?_; (first | (refine EndOK.fin (.inr rfl) ?_) | (refine EndOK.fin (.inl rfl) ?_)); simp [resD, oneOrTup, Tryd.results115]; refine FinOK.here (by simp) ?_; try simp)
        exact PPost.at_ok rfl rfl (by first | rfl | simp [del])

abbrev pairD (e : Exp × Int) : D := .tup [.u (.agg e.1.row), .u (.int .i64 e.2)]
def ExpOK (l : List Tok) (f : Nat) : Prop := ∀ (p : Nat) (form : Int) (i nx : Nat), i < nx → p < l.length → 4 * (l.length - p) + 3 ≤ f → 0 ≤ form → form ≤ 7 →
  RetX Tryd.prog 41 [.ptr i 0, intD form] [(i, pOb l p)] nx (PPost l i nx expD (expP l f p form))
def PreOK (l : List Tok) (f : Nat) : Prop := ∀ (p : Nat) (form : Int) (i nx : Nat), i < nx → p < l.length → 4 * (l.length - p) + 2 ≤ f → 0 ≤ form → form ≤ 7 →
  RetX Tryd.prog 67 [.ptr i 0, intD form] [(i, pOb l p)] nx (PPost l i nx pairD (prefixP l f p form))
def PrimOK (l : List Tok) (f : Nat) : Prop := ∀ (p : Nat) (i nx : Nat), i < nx → p < l.length → 4 * (l.length - p) + 1 ≤ f →
  RetX Tryd.prog 98 [.ptr i 0] [(i, pOb l p)] nx (PPost l i nx expD (primaryP l f p))
theorem want1 {l : List Tok} (hl : TokOK l) (w : List UInt8) {q i nx : Nat} (hi : i < nx) (hq : q < l.length) :
    RetX Tryd.prog 97 [.ptr i 0, .u (.sl [[.str w]])] [(i, pOb l q)] nx (PPost l i nx (fun _ => .tup []) (wantP l q [w])) := want_ret l q [w] i nx hi hq hl (by simp)
theorem primary_num {l : List Tok} (hl : TokOK l) {f p : Nat} {t : Tok} (ht : l[p]? = some t) (hk : t.kind = 2) {i nx : Nat} (hi : i < nx) :
    RetX Tryd.prog 98 [.ptr i 0] [(i, pOb l p)] nx (PPost l i nx expD (primaryP l (f + 1) p)) := by
  have hne := ne_facts hi
  have hp := (List.getElem?_eq_some_iff.1 ht).1
  have hnx := pnext_fun l p t ht hl.len
  have hp2 := hl.fin p t ht (by omega)
  have hll := hl.len
  rw [primaryP, ht]
  simp only [hk, if_true] at hnx ⊢
  have hu := fun nx' (h : nx ≤ nx') => unit_ret l (p + 1) i nx' (by omega) hp2 hl
  cases hr : unitP l (p + 1) with
  | ok a q =>
    simp only [hr] at hu
    (refine RetX.of_bodyW Tryd.func98 rfl (by simp) fun Γ hn hpan => ?_); simp only [entry, List.zipIdx_cons, List.zipIdx_nil, List.map_cons, List.map_nil, Nat.zero_add, Tryd.ntmps98]
    repeat' (first
    | (refine HD4_ok1 (fun nx' h' => hu nx' (by simp at h'; omega)) (by first | (simp [hne, getK_cons, getK, getK_append, getK_del, getK_setOb, applyW]; done) | fail) (by rfl) (by first | assumption | simp) (by rfl) (by simp [D.under, Ob.under]) (by simp) ?_; (try simp [hne]))
    | (refine H_cons ?_; simp [hne])
    | (refine HD4_val rfl ?_; simp [hne])
    | (refine HD4_chg rfl ?_; simp [hne])
    | (refine H_nil ?_; simp [hne])
    | (refine ⟨by omega, ?_⟩)
    | (refine V_sseq ?_; simp [hne])
    | (refine V_scond ?_; simp [hne])
    | (refine HD4_nil (hC _ (okP4_ren [i] nx (by simp <;> omega) (by simp <;> omega) (by apply Exists.intro; apply And.intro; (focus (repeat' (first | exact KF.nil | exact KL.nil | apply KF.cons | apply KL.cons 0 rfl | apply KL.cons 1 rfl | apply KL.cons 2 rfl | apply KL.cons 3 rfl | apply KL.cons 4 rfl | apply KL.cons 5 rfl | apply KL.cons 6 rfl | apply KL.cons 7 rfl | apply KL.cons 8 rfl | apply KL.cons 9 rfl))); kernel_rfl))) (hk _ ?_); clear hC hk C k; simp only [RunK])
    | (refine V_drawX rfl (by kernel_rfl) (by first | (simp [hn]; done) | (simp [hn]; omega) | fail) fun C k hC hk => ?_; simp [hne])
    | (refine V_ret ?_; simp only [RunK])
    | (refine CallP.fun_ (hnx) (by first | rfl | fail) (by first | assumption | (simp; done) | fail) (by first | (simp [hne]; done) | (simp [hne]; rfl) | fail) (by first | (simp; done) | fail) (fun d hd => ?_); subst hd; (try simp [hne]))
    | fail)
    refine EndW.norm ?_
    simp [St.norm, normOb, normD, normU, norm1, hne]
    (refine EndW.here ?_; (first | (refine EndOK.fin (.inr rfl) ?_) | (refine EndOK.fin (.inl rfl) ?_)); simp [resD, oneOrTup, Tryd.results98, hne, hi]; refine FinOK.cut [(i, pOb l q)] (nx) (by simp [getK_cons, getK, getK_append, getK_del, Ob.under, D.under, under_rowsD, under_entD, hne, hi] <;> omega) (by simp [D.under]) (by simp [hn]) ?_; try simp)
    exact PPost.at_ok rfl (by simp [Exp.row]) rfl
  | stop pos e =>
    simp only [hr] at hu
    (refine RetX.of_bodyW Tryd.func98 rfl (by simp) fun Γ hn hpan => ?_); simp only [entry, List.zipIdx_cons, List.zipIdx_nil, List.map_cons, List.map_nil, Nat.zero_add, Tryd.ntmps98]
    repeat' (first
    | (refine HD4_pan1 (fun nx' h' => hu nx' (by simp at h'; omega)) (by first | (simp [hne, getK_cons, getK, getK_append, getK_del, getK_setOb, applyW]; done) | fail) (by rfl) (by first | assumption | simp) (by rfl) (by simp) ?_ ?_; rintro env' ob' n' hn' ⟨q', rfl⟩; refine ⟨_, Wk.refl _, ?_⟩)
    | (refine HD4_skipS rfl (by simp) ?_; simp)
    | (refine H_cons ?_; simp [hne])
    | (refine HD4_val rfl ?_; simp [hne])
    | (refine H_nil ?_; simp [hne])
    | (refine ⟨by omega, ?_⟩)
    | (refine V_sseq ?_; simp [hne])
    | (refine V_scond ?_; simp [hne])
    | (refine HD4_nilS (hC _ (okP4_ren [i] nx (by simp <;> omega) (by simp <;> omega) (by apply Exists.intro; apply And.intro; (focus (repeat' (first | exact KF.nil | exact KL.nil | apply KF.cons | apply KL.cons 0 rfl | apply KL.cons 1 rfl | apply KL.cons 2 rfl | apply KL.cons 3 rfl | apply KL.cons 4 rfl | apply KL.cons 5 rfl | apply KL.cons 6 rfl | apply KL.cons 7 rfl | apply KL.cons 8 rfl | apply KL.cons 9 rfl))); kernel_rfl))) rfl; done)
    | (refine V_drawX rfl (by kernel_rfl) (by first | (simp [hn]; done) | (simp [hn]; omega) | fail) fun C k hC hk => ?_; simp [hne])
    | (refine CallP.fun_ (hnx) (by first | rfl | fail) (by first | assumption | (simp; done) | fail) (by first | (simp [hne]; done) | (simp [hne]; rfl) | fail) (by first | (simp; done) | fail) (fun d hd => ?_); subst hd; (try simp [hne]))
    | fail)
    (refine hpan _ _ ⟨{ n := _, env := [], obs := [(i, pOb l q')], next := nx }, (Wk.cut rfl (by simp [hn]) (by simp [wkO, getK_cons, getK, getK_append, getK_del, Ob.under, D.under, under_rowsD, under_entD, hi, hne, getK_append, getK_del, getK_cons, getK]) (by simp [wkU, keepE, getK_cons, getK, D.under, hi, hne, getK_append, getK_del, getK_cons, getK]) (by simp [wkE, keepE, getK_cons, getK, hi, hne, getK_append, getK_del, getK_cons, getK])), by simp [hn], ?_⟩; try simp)
    exact PPost.at_stop (by simp [PR.bind])
theorem primary_true {l : List Tok} (hl : TokOK l) {f p : Nat} {t : Tok} (ht : l[p]? = some t) (hk : ¬ t.kind = 2) (h1 : isB l p [116, 114, 117, 101] = true) {i nx : Nat} (hi : i < nx) :
    RetX Tryd.prog 98 [.ptr i 0] [(i, pOb l p)] nx (PPost l i nx expD (primaryP l (f + 1) p)) := by
  have hne := ne_facts hi
  have hp := (List.getElem?_eq_some_iff.1 ht).1
  have hnx := pnext_fun l p t ht hl.len
  have hll := hl.len
  rw [primaryP, ht]
  have hh1 := fun nx' (h : nx ≤ nx') => has_ret l p [116, 114, 117, 101] i nx' (by omega) hp hl.len
  simp only [hk, h1, if_false, if_true] at hh1 ⊢
  (refine RetX.of_bodyW Tryd.func98 rfl (by simp) fun Γ hn hpan => ?_); simp only [entry, List.zipIdx_cons, List.zipIdx_nil, List.map_cons, List.map_nil, Nat.zero_add, Tryd.ntmps98]
  repeat' (first
    | (refine H_cons ?_; simp [hne, hk, del])
    | (refine H_nil ?_; simp [hne, hk, del])
    | (refine V_sseq ?_; simp [hne, hk, del])
    | (refine V_scond ?_; simp [hne, hk, del])
    | (refine V_ret ?_; simp only [RunK])
    | (refine CallP.fun_ (hnx) (by first | rfl | fail) (by first | assumption | (simp; done) | fail) (by first | (simp [hne, hk, del]; done) | (simp [hne, hk, del]; rfl) | fail) (by first | (simp; done) | fail) (fun d hd => ?_); subst hd; (try simp [hne, hk, del]))
    | (refine CallP.ok1 (hh1 _ (by first | omega | (simp; done) | (simp; omega) | fail)) (by first | (simp [hne, hk, del, getK_cons, getK, getK_append, getK_del]; done) | fail) (by rfl) (by first | assumption | (simp; done) | fail) (by rfl) (by simp) ?_; (try simp [hne, hk, del]))
    | fail)
  refine EndW.norm ?_
  simp [St.norm, normOb, normD, normU, norm1, hne]
  (refine EndW.here ?_; (first | (refine EndOK.fin (.inr rfl) ?_) | (refine EndOK.fin (.inl rfl) ?_)); simp [resD, oneOrTup, Tryd.results98, hne, hi]; refine FinOK.cut [(i, pOb l (p + 1))] (nx) (by simp [getK_cons, getK, getK_append, getK_del, Ob.under, D.under, under_rowsD, under_entD, hne, hi] <;> omega) (by simp [D.under]) (by simp [hn]) ?_; try simp)
  exact PPost.at_ok rfl (by simp [Exp.row]) rfl
theorem primary_false {l : List Tok} (hl : TokOK l) {f p : Nat} {t : Tok} (ht : l[p]? = some t) (hk : ¬ t.kind = 2) (h1 : isB l p [116, 114, 117, 101] = false) (h2 : isB l p [102, 97, 108, 115, 101] = true) {i nx : Nat} (hi : i < nx) :
    RetX Tryd.prog 98 [.ptr i 0] [(i, pOb l p)] nx (PPost l i nx expD (primaryP l (f + 1) p)) := by
  have hne := ne_facts hi
  have hp := (List.getElem?_eq_some_iff.1 ht).1
  have hnx := pnext_fun l p t ht hl.len
  have hll := hl.len
  rw [primaryP, ht]
  have hh1 := fun nx' (h : nx ≤ nx') => has_ret l p [116, 114, 117, 101] i nx' (by omega) hp hl.len
  have hh2 := fun nx' (h : nx ≤ nx') => has_ret l p [102, 97, 108, 115, 101] i nx' (by omega) hp hl.len
  simp only [hk, h1, h2, if_false, if_true, Bool.false_eq_true] at hh1 hh2 ⊢
  (refine RetX.of_bodyW Tryd.func98 rfl (by simp) fun Γ hn hpan => ?_); simp only [entry, List.zipIdx_cons, List.zipIdx_nil, List.map_cons, List.map_nil, Nat.zero_add, Tryd.ntmps98]
  repeat' (first
    | (refine H_cons ?_; simp [hne, hk, del])
    | (refine H_nil ?_; simp [hne, hk, del])
    | (refine V_sseq ?_; simp [hne, hk, del])
    | (refine V_scond ?_; simp [hne, hk, del])
    | (refine V_ret ?_; simp only [RunK])
    | (refine CallP.fun_ (hnx) (by first | rfl | fail) (by first | assumption | (simp; done) | fail) (by first | (simp [hne, hk, del]; done) | (simp [hne, hk, del]; rfl) | fail) (by first | (simp; done) | fail) (fun d hd => ?_); subst hd; (try simp [hne, hk, del]))
    | (refine CallP.ok1 (hh1 _ (by first | omega | (simp; done) | (simp; omega) | fail)) (by first | (simp [hne, hk, del, getK_cons, getK, getK_append, getK_del]; done) | fail) (by rfl) (by first | assumption | (simp; done) | fail) (by rfl) (by simp) ?_; (try simp [hne, hk, del]))
    | (refine CallP.ok1 (hh2 _ (by first | omega | (simp; done) | (simp; omega) | fail)) (by first | (simp [hne, hk, del, getK_cons, getK, getK_append, getK_del]; done) | fail) (by rfl) (by first | assumption | (simp; done) | fail) (by rfl) (by simp) ?_; (try simp [hne, hk, del]))
    | fail)
  refine EndW.norm ?_
  simp [St.norm, normOb, normD, normU, norm1, hne]
  (refine EndW.here ?_; (first | (refine EndOK.fin (.inr rfl) ?_) | (refine EndOK.fin (.inl rfl) ?_)); simp [resD, oneOrTup, Tryd.results98, hne, hi]; refine FinOK.cut [(i, pOb l (p + 1))] (nx) (by simp [getK_cons, getK, getK_append, getK_del, Ob.under, D.under, under_rowsD, under_entD, hne, hi] <;> omega) (by simp [D.under]) (by simp [hn]) ?_; try simp)
  exact PPost.at_ok rfl (by simp [Exp.row]) rfl

theorem exp_ok {l : List Tok} {F : FuncId} {r : PR Exp} {e : Exp} {q i nx : Nat} {ds : List D} {obs : List (Nat × Ob)} (h : RetX Tryd.prog F ds obs nx (PPost l i nx expD r)) (hr : r = .ok e q) :
    RetX Tryd.prog F ds obs nx fun r o n => r = .val (.u (.agg [.int .i64 e.op, .int .i64 e.n, .int .i64 e.unit, .str e.s, .sl (e.args.map Exp.row)])) ∧ o = [(i, pOb l q)] ∧ n = nx := by
  subst hr
  rw [← Exp.row_eq]
  exact h
theorem primary_paren {l : List Tok} (hl : TokOK l) {f p : Nat} (hE : ExpOK l f) (hf : 4 * (l.length - p) ≤ f) {t : Tok} (ht : l[p]? = some t) (hk : ¬ t.kind = 2) (h1 : isB l p [116, 114, 117, 101] = false) (h2 : isB l p [102, 97, 108, 115, 101] = false)
    (h3 : isB l p [109, 105, 110] = false) (h4 : isB l p [109, 97, 120] = false) (h5 : isB l p [40] = true) {i nx : Nat} (hi : i < nx) :
    RetX Tryd.prog 98 [.ptr i 0] [(i, pOb l p)] nx (PPost l i nx expD (primaryP l (f + 1) p)) := by
  have hne := ne_facts hi
  have hp := (List.getElem?_eq_some_iff.1 ht).1
  have hnx := pnext_fun l p t ht hl.len
  have hll := hl.len
  have hp2 := isB_lt hl h5
  rw [primaryP, ht]
  have hh1 := fun nx' (h : nx ≤ nx') => has_ret l p [116, 114, 117, 101] i nx' (by omega) hp hl.len
  have hh2 := fun nx' (h : nx ≤ nx') => has_ret l p [102, 97, 108, 115, 101] i nx' (by omega) hp hl.len
  have hm1 := is_fun l p [109, 105, 110] hp hl.len
  have hm2 := is_fun l p [109, 97, 120] hp hl.len
  have hh3 := fun nx' (h : nx ≤ nx') => has_ret l p [40] i nx' (by omega) hp hl.len
  simp only [hk, h1, h2, h3, h4, h5, if_false, if_true, Bool.false_eq_true, or_self] at hh1 hh2 hm1 hm2 hh3 ⊢
  have he := fun nx' (h : nx ≤ nx') => hE (p + 1) 0 i nx' (by omega) hp2 (by omega) (by omega) (by omega)
  cases hr : expP l f (p + 1) 0 with
  | stop pos e =>
    simp only [hr] at he
    (refine RetX.of_bodyW Tryd.func98 rfl (by simp) fun Γ hn hpan => ?_); simp only [entry, List.zipIdx_cons, List.zipIdx_nil, List.map_cons, List.map_nil, Nat.zero_add, Tryd.ntmps98]
    repeat' (first
    | (refine H_cons ?_; simp [hne, hk, del, Nat.add_assoc])
    | (refine H_nil ?_; simp [hne, hk, del, Nat.add_assoc])
    | (refine V_sseq ?_; simp [hne, hk, del, Nat.add_assoc])
    | (refine V_scond ?_; simp [hne, hk, del, Nat.add_assoc])
    | (refine CallP.fun_ (hnx) (by first | rfl | fail) (by first | assumption | (simp; done) | fail) (by first | (simp [hne, hk, del, Nat.add_assoc]; done) | (simp [hne, hk, del, Nat.add_assoc]; rfl) | fail) (by first | (simp; done) | fail) (fun d hd => ?_); subst hd; (try simp [hne, hk, del, Nat.add_assoc]))
    | (refine CallP.fun_ (hm1) (by first | rfl | fail) (by first | assumption | (simp; done) | fail) (by first | (simp [hne, hk, del, Nat.add_assoc]; done) | (simp [hne, hk, del, Nat.add_assoc]; rfl) | fail) (by first | (simp; done) | fail) (fun d hd => ?_); subst hd; (try simp [hne, hk, del, Nat.add_assoc]))
    | (refine CallP.fun_ (hm2) (by first | rfl | fail) (by first | assumption | (simp; done) | fail) (by first | (simp [hne, hk, del, Nat.add_assoc]; done) | (simp [hne, hk, del, Nat.add_assoc]; rfl) | fail) (by first | (simp; done) | fail) (fun d hd => ?_); subst hd; (try simp [hne, hk, del, Nat.add_assoc]))
    | (refine CallP.ok1 (hh1 _ (by first | omega | (simp; done) | (simp; omega) | fail)) (by first | (simp [hne, hk, del, Nat.add_assoc, getK_cons, getK, getK_append, getK_del]; done) | fail) (by rfl) (by first | assumption | (simp; done) | fail) (by rfl) (by simp) ?_; (try simp [hne, hk, del, Nat.add_assoc]))
    | (refine CallP.ok1 (hh2 _ (by first | omega | (simp; done) | (simp; omega) | fail)) (by first | (simp [hne, hk, del, Nat.add_assoc, getK_cons, getK, getK_append, getK_del]; done) | fail) (by rfl) (by first | assumption | (simp; done) | fail) (by rfl) (by simp) ?_; (try simp [hne, hk, del, Nat.add_assoc]))
    | (refine CallP.ok1 (hh3 _ (by first | omega | (simp; done) | (simp; omega) | fail)) (by first | (simp [hne, hk, del, Nat.add_assoc, getK_cons, getK, getK_append, getK_del]; done) | fail) (by rfl) (by first | assumption | (simp; done) | fail) (by rfl) (by simp) ?_; (try simp [hne, hk, del, Nat.add_assoc]))
    | (refine CallP.pan1 (he _ (by first | omega | (simp; done) | (simp; omega) | fail)) (by first | (simp [hne, hk, del, Nat.add_assoc, getK_cons, getK, getK_append, getK_del]; done) | fail) (by rfl) (by first | assumption | (simp; done) | fail) (by rfl) (by simp) ?_; rintro ob' ⟨q', rfl⟩; refine ⟨_, Wk.refl _, ?_⟩)
    | fail)
    (refine hpan _ _ ⟨{ n := _, env := [], obs := [(i, pOb l q')], next := nx }, (Wk.cut rfl (by simp [hn]) (by simp [wkO, getK_cons, getK, getK_append, getK_del, Ob.under, D.under, under_rowsD, under_entD, hi, hne, getK_append, getK_del, getK_cons, getK]) (by simp [wkU, keepE, getK_cons, getK, D.under, hi, hne, getK_append, getK_del, getK_cons, getK]) (by simp [wkE, keepE, getK_cons, getK, hi, hne, getK_append, getK_del, getK_cons, getK])), by simp [hn], ?_⟩; try simp)
    exact PPost.at_stop (by simp [PR.bind, *])
  | ok e1 q1 =>
    have he := fun nx' h => exp_ok (he nx' h) hr
    obtain ⟨g1, g2⟩ := (parse_le hl f).1 _ _ _ _ hr hp2
    have hw := fun nx' (h : nx ≤ nx') => want1 hl [41] (q := q1) (i := i) (nx := nx') (by omega) g2
    cases hr2 : wantP l q1 [[41]] with
    | stop pos e =>
      simp only [hr2] at hw
      (refine RetX.of_bodyW Tryd.func98 rfl (by simp) fun Γ hn hpan => ?_); simp only [entry, List.zipIdx_cons, List.zipIdx_nil, List.map_cons, List.map_nil, Nat.zero_add, Tryd.ntmps98]
      repeat' (first
    | (refine H_cons ?_; simp [hne, hk, del, Nat.add_assoc])
    | (refine H_nil ?_; simp [hne, hk, del, Nat.add_assoc])
    | (refine V_sseq ?_; simp [hne, hk, del, Nat.add_assoc])
    | (refine V_scond ?_; simp [hne, hk, del, Nat.add_assoc])
    | (refine CallP.fun_ (hnx) (by first | rfl | fail) (by first | assumption | (simp; done) | fail) (by first | (simp [hne, hk, del, Nat.add_assoc]; done) | (simp [hne, hk, del, Nat.add_assoc]; rfl) | fail) (by first | (simp; done) | fail) (fun d hd => ?_); subst hd; (try simp [hne, hk, del, Nat.add_assoc]))
    | (refine CallP.fun_ (hm1) (by first | rfl | fail) (by first | assumption | (simp; done) | fail) (by first | (simp [hne, hk, del, Nat.add_assoc]; done) | (simp [hne, hk, del, Nat.add_assoc]; rfl) | fail) (by first | (simp; done) | fail) (fun d hd => ?_); subst hd; (try simp [hne, hk, del, Nat.add_assoc]))
    | (refine CallP.fun_ (hm2) (by first | rfl | fail) (by first | assumption | (simp; done) | fail) (by first | (simp [hne, hk, del, Nat.add_assoc]; done) | (simp [hne, hk, del, Nat.add_assoc]; rfl) | fail) (by first | (simp; done) | fail) (fun d hd => ?_); subst hd; (try simp [hne, hk, del, Nat.add_assoc]))
    | (refine CallP.ok1 (hh1 _ (by first | omega | (simp; done) | (simp; omega) | fail)) (by first | (simp [hne, hk, del, Nat.add_assoc, getK_cons, getK, getK_append, getK_del]; done) | fail) (by rfl) (by first | assumption | (simp; done) | fail) (by rfl) (by simp) ?_; (try simp [hne, hk, del, Nat.add_assoc]))
    | (refine CallP.ok1 (hh2 _ (by first | omega | (simp; done) | (simp; omega) | fail)) (by first | (simp [hne, hk, del, Nat.add_assoc, getK_cons, getK, getK_append, getK_del]; done) | fail) (by rfl) (by first | assumption | (simp; done) | fail) (by rfl) (by simp) ?_; (try simp [hne, hk, del, Nat.add_assoc]))
    | (refine CallP.ok1 (hh3 _ (by first | omega | (simp; done) | (simp; omega) | fail)) (by first | (simp [hne, hk, del, Nat.add_assoc, getK_cons, getK, getK_append, getK_del]; done) | fail) (by rfl) (by first | assumption | (simp; done) | fail) (by rfl) (by simp) ?_; (try simp [hne, hk, del, Nat.add_assoc]))
    | (refine CallP.ok1 (he _ (by first | omega | (simp; done) | (simp; omega) | fail)) (by first | (simp [hne, hk, del, Nat.add_assoc, getK_cons, getK, getK_append, getK_del]; done) | fail) (by rfl) (by first | assumption | (simp; done) | fail) (by rfl) (by simp) ?_; (try simp [hne, hk, del, Nat.add_assoc]))
    | (refine CallP.pan1 (hw _ (by first | omega | (simp; done) | (simp; omega) | fail)) (by first | (simp [hne, hk, del, Nat.add_assoc, getK_cons, getK, getK_append, getK_del]; done) | fail) (by rfl) (by first | assumption | (simp; done) | fail) (by rfl) (by simp) ?_; rintro ob' ⟨q', rfl⟩; refine ⟨_, Wk.refl _, ?_⟩)
    | (refine CallP_frzV (by first | rfl | fail) ?_; simp [hne, hk, del, Nat.add_assoc, frzN, frz1, frz_env, frz_obs, St.frz, St.frzS, frzS, fv, fzVec, fzMap, fzBox, frzObS, frz_entD, frz_rowsD, del, frz, frzOb])
    | fail)
      (refine hpan _ _ ⟨{ n := _, env := [], obs := [(i, pOb l q')], next := nx }, (Wk.cut rfl (by simp [hn]) (by simp [wkO, getK_cons, getK, getK_append, getK_del, Ob.under, D.under, under_rowsD, under_entD, hi, hne, getK_append, getK_del, getK_cons, getK]) (by simp [wkU, keepE, getK_cons, getK, D.under, hi, hne, getK_append, getK_del, getK_cons, getK]) (by simp [wkE, keepE, getK_cons, getK, hi, hne, getK_append, getK_del, getK_cons, getK])), by simp [hn], ?_⟩; try simp)
      exact PPost.at_stop (by simp [PR.bind, *])
    | ok u2 q =>
      simp only [hr2] at hw
      (refine RetX.of_bodyW Tryd.func98 rfl (by simp) fun Γ hn hpan => ?_); simp only [entry, List.zipIdx_cons, List.zipIdx_nil, List.map_cons, List.map_nil, Nat.zero_add, Tryd.ntmps98]
      repeat' (first
    | (refine H_cons ?_; simp [hne, hk, del, Nat.add_assoc])
    | (refine H_nil ?_; simp [hne, hk, del, Nat.add_assoc])
    | (refine V_sseq ?_; simp [hne, hk, del, Nat.add_assoc])
    | (refine V_scond ?_; simp [hne, hk, del, Nat.add_assoc])
    | (refine V_ret ?_; simp only [RunK])
    | (refine CallP.fun_ (hnx) (by first | rfl | fail) (by first | assumption | (simp; done) | fail) (by first | (simp [hne, hk, del, Nat.add_assoc]; done) | (simp [hne, hk, del, Nat.add_assoc]; rfl) | fail) (by first | (simp; done) | fail) (fun d hd => ?_); subst hd; (try simp [hne, hk, del, Nat.add_assoc]))
    | (refine CallP.fun_ (hm1) (by first | rfl | fail) (by first | assumption | (simp; done) | fail) (by first | (simp [hne, hk, del, Nat.add_assoc]; done) | (simp [hne, hk, del, Nat.add_assoc]; rfl) | fail) (by first | (simp; done) | fail) (fun d hd => ?_); subst hd; (try simp [hne, hk, del, Nat.add_assoc]))
    | (refine CallP.fun_ (hm2) (by first | rfl | fail) (by first | assumption | (simp; done) | fail) (by first | (simp [hne, hk, del, Nat.add_assoc]; done) | (simp [hne, hk, del, Nat.add_assoc]; rfl) | fail) (by first | (simp; done) | fail) (fun d hd => ?_); subst hd; (try simp [hne, hk, del, Nat.add_assoc]))
    | (refine CallP.ok1 (hh1 _ (by first | omega | (simp; done) | (simp; omega) | fail)) (by first | (simp [hne, hk, del, Nat.add_assoc, getK_cons, getK, getK_append, getK_del]; done) | fail) (by rfl) (by first | assumption | (simp; done) | fail) (by rfl) (by simp) ?_; (try simp [hne, hk, del, Nat.add_assoc]))
    | (refine CallP.ok1 (hh2 _ (by first | omega | (simp; done) | (simp; omega) | fail)) (by first | (simp [hne, hk, del, Nat.add_assoc, getK_cons, getK, getK_append, getK_del]; done) | fail) (by rfl) (by first | assumption | (simp; done) | fail) (by rfl) (by simp) ?_; (try simp [hne, hk, del, Nat.add_assoc]))
    | (refine CallP.ok1 (hh3 _ (by first | omega | (simp; done) | (simp; omega) | fail)) (by first | (simp [hne, hk, del, Nat.add_assoc, getK_cons, getK, getK_append, getK_del]; done) | fail) (by rfl) (by first | assumption | (simp; done) | fail) (by rfl) (by simp) ?_; (try simp [hne, hk, del, Nat.add_assoc]))
    | (refine CallP.ok1 (he _ (by first | omega | (simp; done) | (simp; omega) | fail)) (by first | (simp [hne, hk, del, Nat.add_assoc, getK_cons, getK, getK_append, getK_del]; done) | fail) (by rfl) (by first | assumption | (simp; done) | fail) (by rfl) (by simp) ?_; (try simp [hne, hk, del, Nat.add_assoc]))
    | (refine CallP.ok1 (hw _ (by first | omega | (simp; done) | (simp; omega) | fail)) (by first | (simp [hne, hk, del, Nat.add_assoc, getK_cons, getK, getK_append, getK_del]; done) | fail) (by rfl) (by first | assumption | (simp; done) | fail) (by rfl) (by simp) ?_; (try simp [hne, hk, del, Nat.add_assoc]))
    | (refine CallP_frzV (by first | rfl | fail) ?_; simp [hne, hk, del, Nat.add_assoc, frzN, frz1, frz_env, frz_obs, St.frz, St.frzS, frzS, fv, fzVec, fzMap, fzBox, frzObS, frz_entD, frz_rowsD, del, frz, frzOb])
    | fail)
      refine EndW.norm ?_
      simp [St.norm, normOb, normD, normU, norm1, hne]
      (refine EndW.here ?_; (first | (refine EndOK.fin (.inr rfl) ?_) | (refine EndOK.fin (.inl rfl) ?_)); simp [resD, oneOrTup, Tryd.results98, hne, hi]; refine FinOK.cut [(i, pOb l q)] (nx) (by simp [getK_cons, getK, getK_append, getK_del, Ob.under, D.under, under_rowsD, under_entD, hne, hi] <;> omega) (by simp [D.under]) (by simp [hn]) ?_; try simp)
      exact PPost.at_ok (by simp [PR.bind, *]; rfl) (by simp [Exp.row_eq]) rfl

theorem primary_max {l : List Tok} (hl : TokOK l) {f p : Nat} (hE : ExpOK l f) (hf : 4 * (l.length - p) ≤ f) {t : Tok} (ht : l[p]? = some t) (hk : ¬ t.kind = 2) (h1 : isB l p [116, 114, 117, 101] = false) (h2 : isB l p [102, 97, 108, 115, 101] = false)
    (h3 : isB l p [109, 105, 110] = false) (h4 : isB l p [109, 97, 120] = true) {i nx : Nat} (hi : i < nx) :
    RetX Tryd.prog 98 [.ptr i 0] [(i, pOb l p)] nx (PPost l i nx expD (primaryP l (f + 1) p)) := by
  have hne := ne_facts hi
  have hp := (List.getElem?_eq_some_iff.1 ht).1
  have hnx := pnext_fun l p t ht hl.len
  have hll := hl.len
  have hp2 := isB_lt hl h4
  rw [primaryP, ht]
  have hh1 := fun nx' (h : nx ≤ nx') => has_ret l p [116, 114, 117, 101] i nx' (by omega) hp hl.len
  have hh2 := fun nx' (h : nx ≤ nx') => has_ret l p [102, 97, 108, 115, 101] i nx' (by omega) hp hl.len
  have hm1 := is_fun l p [109, 105, 110] hp hl.len
  have hm2 := is_fun l p [109, 97, 120] hp hl.len
  simp only [hk, h1, h2, h3, h4, if_false, if_true, Bool.false_eq_true, or_true, true_or] at hh1 hh2 hm1 hm2 ⊢
  have hw1 := fun nx' (h : nx ≤ nx') => want1 hl [40] (q := (p + 1)) (i := i) (nx := nx') (by omega) hp2
  cases hr0 : wantP l (p + 1) [[40]] with
  | stop pos e =>
    simp only [hr0] at hw1
    (refine RetX.of_bodyW Tryd.func98 rfl (by simp) fun Γ hn hpan => ?_); simp only [entry, List.zipIdx_cons, List.zipIdx_nil, List.map_cons, List.map_nil, Nat.zero_add, Tryd.ntmps98]
    repeat' (first
    | (refine H_cons ?_; simp [hne, hk, del, Nat.add_assoc])
    | (refine H_nil ?_; simp [hne, hk, del, Nat.add_assoc])
    | (refine ⟨by omega, ?_⟩)
    | (refine V_sseq ?_; simp [hne, hk, del, Nat.add_assoc])
    | (refine V_scond ?_; simp [hne, hk, del, Nat.add_assoc])
    | (refine V_sregion ?_; simp [hne, hk, del, Nat.add_assoc])
    | (refine CallP.fun_ (hnx) (by first | rfl | fail) (by first | assumption | (simp; done) | fail) (by first | (simp [hne, hk, del, Nat.add_assoc]; done) | (simp [hne, hk, del, Nat.add_assoc]; rfl) | fail) (by first | (simp; done) | fail) (fun d hd => ?_); subst hd; (try simp [hne, hk, del, Nat.add_assoc]))
    | (refine CallP.fun_ (hm1) (by first | rfl | fail) (by first | assumption | (simp; done) | fail) (by first | (simp [hne, hk, del, Nat.add_assoc]; done) | (simp [hne, hk, del, Nat.add_assoc]; rfl) | fail) (by first | (simp; done) | fail) (fun d hd => ?_); subst hd; (try simp [hne, hk, del, Nat.add_assoc]))
    | (refine CallP.fun_ (hm2) (by first | rfl | fail) (by first | assumption | (simp; done) | fail) (by first | (simp [hne, hk, del, Nat.add_assoc]; done) | (simp [hne, hk, del, Nat.add_assoc]; rfl) | fail) (by first | (simp; done) | fail) (fun d hd => ?_); subst hd; (try simp [hne, hk, del, Nat.add_assoc]))
    | (refine CallP.ok1 (hh1 _ (by first | omega | (simp; done) | (simp; omega) | fail)) (by first | (simp [hne, hk, del, Nat.add_assoc, getK_cons, getK, getK_append, getK_del]; done) | fail) (by rfl) (by first | assumption | (simp; done) | fail) (by rfl) (by simp) ?_; (try simp [hne, hk, del, Nat.add_assoc]))
    | (refine CallP.ok1 (hh2 _ (by first | omega | (simp; done) | (simp; omega) | fail)) (by first | (simp [hne, hk, del, Nat.add_assoc, getK_cons, getK, getK_append, getK_del]; done) | fail) (by rfl) (by first | assumption | (simp; done) | fail) (by rfl) (by simp) ?_; (try simp [hne, hk, del, Nat.add_assoc]))
    | (refine CallP.pan1 (hw1 _ (by first | omega | (simp; done) | (simp; omega) | fail)) (by first | (simp [hne, hk, del, Nat.add_assoc, getK_cons, getK, getK_append, getK_del]; done) | fail) (by rfl) (by first | assumption | (simp; done) | fail) (by rfl) (by simp) ?_; rintro ob' ⟨q', rfl⟩; refine ⟨_, Wk.refl _, ?_⟩)
    | (refine CallP_frzV (by first | rfl | fail) ?_; simp [hne, hk, del, Nat.add_assoc, frzN, frz1, frz_env, frz_obs, St.frz, St.frzS, frzS, fv, fzVec, fzMap, fzBox, frzObS, frz_entD, frz_rowsD, del, frz, frzOb])
    | fail)
    (refine hpan _ _ ⟨{ n := _, env := [], obs := [(i, pOb l q')], next := nx }, (Wk.cut rfl (by simp [hn]) (by simp [wkO, getK_cons, getK, getK_append, getK_del, Ob.under, D.under, under_rowsD, under_entD, hi, hne, getK_append, getK_del, getK_cons, getK]) (by simp [wkU, keepE, getK_cons, getK, D.under, hi, hne, getK_append, getK_del, getK_cons, getK]) (by simp [wkE, keepE, getK_cons, getK, hi, hne, getK_append, getK_del, getK_cons, getK])), by simp [hn], ?_⟩; try simp)
    exact PPost.at_stop (by simp [PR.bind, *])
  | ok v0 q0 =>
    simp only [hr0] at hw1
    obtain ⟨g0a, g0b⟩ := wantP_le hl _ hr0 hp2
    have ha := fun nx' (h : nx ≤ nx') => hE q0 0 i nx' (by omega) g0b (by omega) (by omega) (by omega)
    cases hr1 : expP l f q0 0 with
    | stop pos e =>
      simp only [hr1] at ha
      (refine RetX.of_bodyW Tryd.func98 rfl (by simp) fun Γ hn hpan => ?_); simp only [entry, List.zipIdx_cons, List.zipIdx_nil, List.map_cons, List.map_nil, Nat.zero_add, Tryd.ntmps98]
      repeat' (first
    | (refine H_cons ?_; simp [hne, hk, del, Nat.add_assoc])
    | (refine H_nil ?_; simp [hne, hk, del, Nat.add_assoc])
    | (refine ⟨by omega, ?_⟩)
    | (refine V_sseq ?_; simp [hne, hk, del, Nat.add_assoc])
    | (refine V_scond ?_; simp [hne, hk, del, Nat.add_assoc])
    | (refine V_sregion ?_; simp [hne, hk, del, Nat.add_assoc])
    | (refine CallP.fun_ (hnx) (by first | rfl | fail) (by first | assumption | (simp; done) | fail) (by first | (simp [hne, hk, del, Nat.add_assoc]; done) | (simp [hne, hk, del, Nat.add_assoc]; rfl) | fail) (by first | (simp; done) | fail) (fun d hd => ?_); subst hd; (try simp [hne, hk, del, Nat.add_assoc]))
    | (refine CallP.fun_ (hm1) (by first | rfl | fail) (by first | assumption | (simp; done) | fail) (by first | (simp [hne, hk, del, Nat.add_assoc]; done) | (simp [hne, hk, del, Nat.add_assoc]; rfl) | fail) (by first | (simp; done) | fail) (fun d hd => ?_); subst hd; (try simp [hne, hk, del, Nat.add_assoc]))
    | (refine CallP.fun_ (hm2) (by first | rfl | fail) (by first | assumption | (simp; done) | fail) (by first | (simp [hne, hk, del, Nat.add_assoc]; done) | (simp [hne, hk, del, Nat.add_assoc]; rfl) | fail) (by first | (simp; done) | fail) (fun d hd => ?_); subst hd; (try simp [hne, hk, del, Nat.add_assoc]))
    | (refine CallP.ok1 (hh1 _ (by first | omega | (simp; done) | (simp; omega) | fail)) (by first | (simp [hne, hk, del, Nat.add_assoc, getK_cons, getK, getK_append, getK_del]; done) | fail) (by rfl) (by first | assumption | (simp; done) | fail) (by rfl) (by simp) ?_; (try simp [hne, hk, del, Nat.add_assoc]))
    | (refine CallP.ok1 (hh2 _ (by first | omega | (simp; done) | (simp; omega) | fail)) (by first | (simp [hne, hk, del, Nat.add_assoc, getK_cons, getK, getK_append, getK_del]; done) | fail) (by rfl) (by first | assumption | (simp; done) | fail) (by rfl) (by simp) ?_; (try simp [hne, hk, del, Nat.add_assoc]))
    | (refine CallP.ok1 (hw1 _ (by first | omega | (simp; done) | (simp; omega) | fail)) (by first | (simp [hne, hk, del, Nat.add_assoc, getK_cons, getK, getK_append, getK_del]; done) | fail) (by rfl) (by first | assumption | (simp; done) | fail) (by rfl) (by simp) ?_; (try simp [hne, hk, del, Nat.add_assoc]))
    | (refine CallP.pan1 (ha _ (by first | omega | (simp; done) | (simp; omega) | fail)) (by first | (simp [hne, hk, del, Nat.add_assoc, getK_cons, getK, getK_append, getK_del]; done) | fail) (by rfl) (by first | assumption | (simp; done) | fail) (by rfl) (by simp) ?_; rintro ob' ⟨q', rfl⟩; refine ⟨_, Wk.refl _, ?_⟩)
    | (refine CallP_frzV (by first | rfl | fail) ?_; simp [hne, hk, del, Nat.add_assoc, frzN, frz1, frz_env, frz_obs, St.frz, St.frzS, frzS, fv, fzVec, fzMap, fzBox, frzObS, frz_entD, frz_rowsD, del, frz, frzOb])
    | fail)
      (refine hpan _ _ ⟨{ n := _, env := [], obs := [(i, pOb l q')], next := nx }, (Wk.cut rfl (by simp [hn]) (by simp [wkO, getK_cons, getK, getK_append, getK_del, Ob.under, D.under, under_rowsD, under_entD, hi, hne, getK_append, getK_del, getK_cons, getK]) (by simp [wkU, keepE, getK_cons, getK, D.under, hi, hne, getK_append, getK_del, getK_cons, getK]) (by simp [wkE, keepE, getK_cons, getK, hi, hne, getK_append, getK_del, getK_cons, getK])), by simp [hn], ?_⟩; try simp)
      exact PPost.at_stop (by simp [PR.bind, *])
    | ok v1 q1 =>
      have ha := fun nx' h => exp_ok (ha nx' h) hr1
      obtain ⟨g1a, g1b⟩ := (parse_le hl f).1 _ _ _ _ hr1 g0b
      have hw2 := fun nx' (h : nx ≤ nx') => want1 hl [44] (q := q1) (i := i) (nx := nx') (by omega) g1b
      cases hr2 : wantP l q1 [[44]] with
      | stop pos e =>
        simp only [hr2] at hw2
        (refine RetX.of_bodyW Tryd.func98 rfl (by simp) fun Γ hn hpan => ?_); simp only [entry, List.zipIdx_cons, List.zipIdx_nil, List.map_cons, List.map_nil, Nat.zero_add, Tryd.ntmps98]
        repeat' (first
    | (refine H_cons ?_; simp [hne, hk, del, Nat.add_assoc])
    | (refine H_nil ?_; simp [hne, hk, del, Nat.add_assoc])
    | (refine ⟨by omega, ?_⟩)
    | (refine V_sseq ?_; simp [hne, hk, del, Nat.add_assoc])
    | (refine V_scond ?_; simp [hne, hk, del, Nat.add_assoc])
    | (refine V_sregion ?_; simp [hne, hk, del, Nat.add_assoc])
    | (refine CallP.fun_ (hnx) (by first | rfl | fail) (by first | assumption | (simp; done) | fail) (by first | (simp [hne, hk, del, Nat.add_assoc]; done) | (simp [hne, hk, del, Nat.add_assoc]; rfl) | fail) (by first | (simp; done) | fail) (fun d hd => ?_); subst hd; (try simp [hne, hk, del, Nat.add_assoc]))
    | (refine CallP.fun_ (hm1) (by first | rfl | fail) (by first | assumption | (simp; done) | fail) (by first | (simp [hne, hk, del, Nat.add_assoc]; done) | (simp [hne, hk, del, Nat.add_assoc]; rfl) | fail) (by first | (simp; done) | fail) (fun d hd => ?_); subst hd; (try simp [hne, hk, del, Nat.add_assoc]))
    | (refine CallP.fun_ (hm2) (by first | rfl | fail) (by first | assumption | (simp; done) | fail) (by first | (simp [hne, hk, del, Nat.add_assoc]; done) | (simp [hne, hk, del, Nat.add_assoc]; rfl) | fail) (by first | (simp; done) | fail) (fun d hd => ?_); subst hd; (try simp [hne, hk, del, Nat.add_assoc]))
    | (refine CallP.ok1 (hh1 _ (by first | omega | (simp; done) | (simp; omega) | fail)) (by first | (simp [hne, hk, del, Nat.add_assoc, getK_cons, getK, getK_append, getK_del]; done) | fail) (by rfl) (by first | assumption | (simp; done) | fail) (by rfl) (by simp) ?_; (try simp [hne, hk, del, Nat.add_assoc]))
    | (refine CallP.ok1 (hh2 _ (by first | omega | (simp; done) | (simp; omega) | fail)) (by first | (simp [hne, hk, del, Nat.add_assoc, getK_cons, getK, getK_append, getK_del]; done) | fail) (by rfl) (by first | assumption | (simp; done) | fail) (by rfl) (by simp) ?_; (try simp [hne, hk, del, Nat.add_assoc]))
    | (refine CallP.ok1 (hw1 _ (by first | omega | (simp; done) | (simp; omega) | fail)) (by first | (simp [hne, hk, del, Nat.add_assoc, getK_cons, getK, getK_append, getK_del]; done) | fail) (by rfl) (by first | assumption | (simp; done) | fail) (by rfl) (by simp) ?_; (try simp [hne, hk, del, Nat.add_assoc]))
    | (refine CallP.ok1 (ha _ (by first | omega | (simp; done) | (simp; omega) | fail)) (by first | (simp [hne, hk, del, Nat.add_assoc, getK_cons, getK, getK_append, getK_del]; done) | fail) (by rfl) (by first | assumption | (simp; done) | fail) (by rfl) (by simp) ?_; (try simp [hne, hk, del, Nat.add_assoc]))
    | (refine CallP.pan1 (hw2 _ (by first | omega | (simp; done) | (simp; omega) | fail)) (by first | (simp [hne, hk, del, Nat.add_assoc, getK_cons, getK, getK_append, getK_del]; done) | fail) (by rfl) (by first | assumption | (simp; done) | fail) (by rfl) (by simp) ?_; rintro ob' ⟨q', rfl⟩; refine ⟨_, Wk.refl _, ?_⟩)
    | (refine CallP_frzV (by first | rfl | fail) ?_; simp [hne, hk, del, Nat.add_assoc, frzN, frz1, frz_env, frz_obs, St.frz, St.frzS, frzS, fv, fzVec, fzMap, fzBox, frzObS, frz_entD, frz_rowsD, del, frz, frzOb])
    | fail)
        (refine hpan _ _ ⟨{ n := _, env := [], obs := [(i, pOb l q')], next := nx }, (Wk.cut rfl (by simp [hn]) (by simp [wkO, getK_cons, getK, getK_append, getK_del, Ob.under, D.under, under_rowsD, under_entD, hi, hne, getK_append, getK_del, getK_cons, getK]) (by simp [wkU, keepE, getK_cons, getK, D.under, hi, hne, getK_append, getK_del, getK_cons, getK]) (by simp [wkE, keepE, getK_cons, getK, hi, hne, getK_append, getK_del, getK_cons, getK])), by simp [hn], ?_⟩; try simp)
        exact PPost.at_stop (by simp [PR.bind, *])
      | ok v2 q2 =>
        simp only [hr2] at hw2
        obtain ⟨g2a, g2b⟩ := wantP_le hl _ hr2 g1b
        have hb := fun nx' (h : nx ≤ nx') => hE q2 0 i nx' (by omega) g2b (by omega) (by omega) (by omega)
        cases hr3 : expP l f q2 0 with
        | stop pos e =>
          simp only [hr3] at hb
          (refine RetX.of_bodyW Tryd.func98 rfl (by simp) fun Γ hn hpan => ?_); simp only [entry, List.zipIdx_cons, List.zipIdx_nil, List.map_cons, List.map_nil, Nat.zero_add, Tryd.ntmps98]
          repeat' (first
    | (refine H_cons ?_; simp [hne, hk, del, Nat.add_assoc])
    | (refine H_nil ?_; simp [hne, hk, del, Nat.add_assoc])
    | (refine ⟨by omega, ?_⟩)
    | (refine V_sseq ?_; simp [hne, hk, del, Nat.add_assoc])
    | (refine V_scond ?_; simp [hne, hk, del, Nat.add_assoc])
    | (refine V_sregion ?_; simp [hne, hk, del, Nat.add_assoc])
    | (refine CallP.fun_ (hnx) (by first | rfl | fail) (by first | assumption | (simp; done) | fail) (by first | (simp [hne, hk, del, Nat.add_assoc]; done) | (simp [hne, hk, del, Nat.add_assoc]; rfl) | fail) (by first | (simp; done) | fail) (fun d hd => ?_); subst hd; (try simp [hne, hk, del, Nat.add_assoc]))
    | (refine CallP.fun_ (hm1) (by first | rfl | fail) (by first | assumption | (simp; done) | fail) (by first | (simp [hne, hk, del, Nat.add_assoc]; done) | (simp [hne, hk, del, Nat.add_assoc]; rfl) | fail) (by first | (simp; done) | fail) (fun d hd => ?_); subst hd; (try simp [hne, hk, del, Nat.add_assoc]))
    | (refine CallP.fun_ (hm2) (by first | rfl | fail) (by first | assumption | (simp; done) | fail) (by first | (simp [hne, hk, del, Nat.add_assoc]; done) | (simp [hne, hk, del, Nat.add_assoc]; rfl) | fail) (by first | (simp; done) | fail) (fun d hd => ?_); subst hd; (try simp [hne, hk, del, Nat.add_assoc]))
    | (refine CallP.ok1 (hh1 _ (by first | omega | (simp; done) | (simp; omega) | fail)) (by first | (simp [hne, hk, del, Nat.add_assoc, getK_cons, getK, getK_append, getK_del]; done) | fail) (by rfl) (by first | assumption | (simp; done) | fail) (by rfl) (by simp) ?_; (try simp [hne, hk, del, Nat.add_assoc]))
    | (refine CallP.ok1 (hh2 _ (by first | omega | (simp; done) | (simp; omega) | fail)) (by first | (simp [hne, hk, del, Nat.add_assoc, getK_cons, getK, getK_append, getK_del]; done) | fail) (by rfl) (by first | assumption | (simp; done) | fail) (by rfl) (by simp) ?_; (try simp [hne, hk, del, Nat.add_assoc]))
    | (refine CallP.ok1 (hw1 _ (by first | omega | (simp; done) | (simp; omega) | fail)) (by first | (simp [hne, hk, del, Nat.add_assoc, getK_cons, getK, getK_append, getK_del]; done) | fail) (by rfl) (by first | assumption | (simp; done) | fail) (by rfl) (by simp) ?_; (try simp [hne, hk, del, Nat.add_assoc]))
    | (refine CallP.ok1 (ha _ (by first | omega | (simp; done) | (simp; omega) | fail)) (by first | (simp [hne, hk, del, Nat.add_assoc, getK_cons, getK, getK_append, getK_del]; done) | fail) (by rfl) (by first | assumption | (simp; done) | fail) (by rfl) (by simp) ?_; (try simp [hne, hk, del, Nat.add_assoc]))
    | (refine CallP.ok1 (hw2 _ (by first | omega | (simp; done) | (simp; omega) | fail)) (by first | (simp [hne, hk, del, Nat.add_assoc, getK_cons, getK, getK_append, getK_del]; done) | fail) (by rfl) (by first | assumption | (simp; done) | fail) (by rfl) (by simp) ?_; (try simp [hne, hk, del, Nat.add_assoc]))
    | (refine CallP.pan1 (hb _ (by first | omega | (simp; done) | (simp; omega) | fail)) (by first | (simp [hne, hk, del, Nat.add_assoc, getK_cons, getK, getK_append, getK_del]; done) | fail) (by rfl) (by first | assumption | (simp; done) | fail) (by rfl) (by simp) ?_; rintro ob' ⟨q', rfl⟩; refine ⟨_, Wk.refl _, ?_⟩)
    | (refine CallP_frzV (by first | rfl | fail) ?_; simp [hne, hk, del, Nat.add_assoc, frzN, frz1, frz_env, frz_obs, St.frz, St.frzS, frzS, fv, fzVec, fzMap, fzBox, frzObS, frz_entD, frz_rowsD, del, frz, frzOb])
    | fail)
          (refine hpan _ _ ⟨{ n := _, env := [], obs := [(i, pOb l q')], next := nx }, (Wk.cut rfl (by simp [hn]) (by simp [wkO, getK_cons, getK, getK_append, getK_del, Ob.under, D.under, under_rowsD, under_entD, hi, hne, getK_append, getK_del, getK_cons, getK]) (by simp [wkU, keepE, getK_cons, getK, D.under, hi, hne, getK_append, getK_del, getK_cons, getK]) (by simp [wkE, keepE, getK_cons, getK, hi, hne, getK_append, getK_del, getK_cons, getK])), by simp [hn], ?_⟩; try simp)
          exact PPost.at_stop (by simp [PR.bind, *])
        | ok v3 q3 =>
          have hb := fun nx' h => exp_ok (hb nx' h) hr3
          obtain ⟨g3a, g3b⟩ := (parse_le hl f).1 _ _ _ _ hr3 g2b
          have hw3 := fun nx' (h : nx ≤ nx') => want1 hl [41] (q := q3) (i := i) (nx := nx') (by omega) g3b
          cases hr4 : wantP l q3 [[41]] with
          | stop pos e =>
            simp only [hr4] at hw3
            (refine RetX.of_bodyW Tryd.func98 rfl (by simp) fun Γ hn hpan => ?_); simp only [entry, List.zipIdx_cons, List.zipIdx_nil, List.map_cons, List.map_nil, Nat.zero_add, Tryd.ntmps98]
            repeat' (first
    | (refine H_cons ?_; simp [hne, hk, del, Nat.add_assoc])
    | (refine H_nil ?_; simp [hne, hk, del, Nat.add_assoc])
    | (refine ⟨by omega, ?_⟩)
    | (refine V_sseq ?_; simp [hne, hk, del, Nat.add_assoc])
    | (refine V_scond ?_; simp [hne, hk, del, Nat.add_assoc])
    | (refine V_sregion ?_; simp [hne, hk, del, Nat.add_assoc])
    | (refine CallP.fun_ (hnx) (by first | rfl | fail) (by first | assumption | (simp; done) | fail) (by first | (simp [hne, hk, del, Nat.add_assoc]; done) | (simp [hne, hk, del, Nat.add_assoc]; rfl) | fail) (by first | (simp; done) | fail) (fun d hd => ?_); subst hd; (try simp [hne, hk, del, Nat.add_assoc]))
    | (refine CallP.fun_ (hm1) (by first | rfl | fail) (by first | assumption | (simp; done) | fail) (by first | (simp [hne, hk, del, Nat.add_assoc]; done) | (simp [hne, hk, del, Nat.add_assoc]; rfl) | fail) (by first | (simp; done) | fail) (fun d hd => ?_); subst hd; (try simp [hne, hk, del, Nat.add_assoc]))
    | (refine CallP.fun_ (hm2) (by first | rfl | fail) (by first | assumption | (simp; done) | fail) (by first | (simp [hne, hk, del, Nat.add_assoc]; done) | (simp [hne, hk, del, Nat.add_assoc]; rfl) | fail) (by first | (simp; done) | fail) (fun d hd => ?_); subst hd; (try simp [hne, hk, del, Nat.add_assoc]))
    | (refine CallP.ok1 (hh1 _ (by first | omega | (simp; done) | (simp; omega) | fail)) (by first | (simp [hne, hk, del, Nat.add_assoc, getK_cons, getK, getK_append, getK_del]; done) | fail) (by rfl) (by first | assumption | (simp; done) | fail) (by rfl) (by simp) ?_; (try simp [hne, hk, del, Nat.add_assoc]))
    | (refine CallP.ok1 (hh2 _ (by first | omega | (simp; done) | (simp; omega) | fail)) (by first | (simp [hne, hk, del, Nat.add_assoc, getK_cons, getK, getK_append, getK_del]; done) | fail) (by rfl) (by first | assumption | (simp; done) | fail) (by rfl) (by simp) ?_; (try simp [hne, hk, del, Nat.add_assoc]))
    | (refine CallP.ok1 (hw1 _ (by first | omega | (simp; done) | (simp; omega) | fail)) (by first | (simp [hne, hk, del, Nat.add_assoc, getK_cons, getK, getK_append, getK_del]; done) | fail) (by rfl) (by first | assumption | (simp; done) | fail) (by rfl) (by simp) ?_; (try simp [hne, hk, del, Nat.add_assoc]))
    | (refine CallP.ok1 (ha _ (by first | omega | (simp; done) | (simp; omega) | fail)) (by first | (simp [hne, hk, del, Nat.add_assoc, getK_cons, getK, getK_append, getK_del]; done) | fail) (by rfl) (by first | assumption | (simp; done) | fail) (by rfl) (by simp) ?_; (try simp [hne, hk, del, Nat.add_assoc]))
    | (refine CallP.ok1 (hw2 _ (by first | omega | (simp; done) | (simp; omega) | fail)) (by first | (simp [hne, hk, del, Nat.add_assoc, getK_cons, getK, getK_append, getK_del]; done) | fail) (by rfl) (by first | assumption | (simp; done) | fail) (by rfl) (by simp) ?_; (try simp [hne, hk, del, Nat.add_assoc]))
    | (refine CallP.ok1 (hb _ (by first | omega | (simp; done) | (simp; omega) | fail)) (by first | (simp [hne, hk, del, Nat.add_assoc, getK_cons, getK, getK_append, getK_del]; done) | fail) (by rfl) (by first | assumption | (simp; done) | fail) (by rfl) (by simp) ?_; (try simp [hne, hk, del, Nat.add_assoc]))
    | (refine CallP.pan1 (hw3 _ (by first | omega | (simp; done) | (simp; omega) | fail)) (by first | (simp [hne, hk, del, Nat.add_assoc, getK_cons, getK, getK_append, getK_del]; done) | fail) (by rfl) (by first | assumption | (simp; done) | fail) (by rfl) (by simp) ?_; rintro ob' ⟨q', rfl⟩; refine ⟨_, Wk.refl _, ?_⟩)
    | (refine CallP_frzV (by first | rfl | fail) ?_; simp [hne, hk, del, Nat.add_assoc, frzN, frz1, frz_env, frz_obs, St.frz, St.frzS, frzS, fv, fzVec, fzMap, fzBox, frzObS, frz_entD, frz_rowsD, del, frz, frzOb])
    | fail)
            (refine hpan _ _ ⟨{ n := _, env := [], obs := [(i, pOb l q')], next := nx }, (Wk.cut rfl (by simp [hn]) (by simp [wkO, getK_cons, getK, getK_append, getK_del, Ob.under, D.under, under_rowsD, under_entD, hi, hne, getK_append, getK_del, getK_cons, getK]) (by simp [wkU, keepE, getK_cons, getK, D.under, hi, hne, getK_append, getK_del, getK_cons, getK]) (by simp [wkE, keepE, getK_cons, getK, hi, hne, getK_append, getK_del, getK_cons, getK])), by simp [hn], ?_⟩; try simp)
            exact PPost.at_stop (by simp [PR.bind, *])
          | ok v4 q4 =>
            simp only [hr4] at hw3
            obtain ⟨g4a, g4b⟩ := wantP_le hl _ hr4 g3b
            (refine RetX.of_bodyW Tryd.func98 rfl (by simp) fun Γ hn hpan => ?_); simp only [entry, List.zipIdx_cons, List.zipIdx_nil, List.map_cons, List.map_nil, Nat.zero_add, Tryd.ntmps98]
            repeat' (first
    | (refine H_cons ?_; simp [hne, hk, del, Nat.add_assoc])
    | (refine H_nil ?_; simp [hne, hk, del, Nat.add_assoc])
    | (refine ⟨by omega, ?_⟩)
    | (refine V_sseq ?_; simp [hne, hk, del, Nat.add_assoc])
    | (refine V_scond ?_; simp [hne, hk, del, Nat.add_assoc])
    | (refine V_sregion ?_; simp [hne, hk, del, Nat.add_assoc])
    | (refine V_ret ?_; simp only [RunK])
    | (refine CallP.fun_ (hnx) (by first | rfl | fail) (by first | assumption | (simp; done) | fail) (by first | (simp [hne, hk, del, Nat.add_assoc]; done) | (simp [hne, hk, del, Nat.add_assoc]; rfl) | fail) (by first | (simp; done) | fail) (fun d hd => ?_); subst hd; (try simp [hne, hk, del, Nat.add_assoc]))
    | (refine CallP.fun_ (hm1) (by first | rfl | fail) (by first | assumption | (simp; done) | fail) (by first | (simp [hne, hk, del, Nat.add_assoc]; done) | (simp [hne, hk, del, Nat.add_assoc]; rfl) | fail) (by first | (simp; done) | fail) (fun d hd => ?_); subst hd; (try simp [hne, hk, del, Nat.add_assoc]))
    | (refine CallP.fun_ (hm2) (by first | rfl | fail) (by first | assumption | (simp; done) | fail) (by first | (simp [hne, hk, del, Nat.add_assoc]; done) | (simp [hne, hk, del, Nat.add_assoc]; rfl) | fail) (by first | (simp; done) | fail) (fun d hd => ?_); subst hd; (try simp [hne, hk, del, Nat.add_assoc]))
    | (refine CallP.ok1 (hh1 _ (by first | omega | (simp; done) | (simp; omega) | fail)) (by first | (simp [hne, hk, del, Nat.add_assoc, getK_cons, getK, getK_append, getK_del]; done) | fail) (by rfl) (by first | assumption | (simp; done) | fail) (by rfl) (by simp) ?_; (try simp [hne, hk, del, Nat.add_assoc]))
    | (refine CallP.ok1 (hh2 _ (by first | omega | (simp; done) | (simp; omega) | fail)) (by first | (simp [hne, hk, del, Nat.add_assoc, getK_cons, getK, getK_append, getK_del]; done) | fail) (by rfl) (by first | assumption | (simp; done) | fail) (by rfl) (by simp) ?_; (try simp [hne, hk, del, Nat.add_assoc]))
    | (refine CallP.ok1 (hw1 _ (by first | omega | (simp; done) | (simp; omega) | fail)) (by first | (simp [hne, hk, del, Nat.add_assoc, getK_cons, getK, getK_append, getK_del]; done) | fail) (by rfl) (by first | assumption | (simp; done) | fail) (by rfl) (by simp) ?_; (try simp [hne, hk, del, Nat.add_assoc]))
    | (refine CallP.ok1 (ha _ (by first | omega | (simp; done) | (simp; omega) | fail)) (by first | (simp [hne, hk, del, Nat.add_assoc, getK_cons, getK, getK_append, getK_del]; done) | fail) (by rfl) (by first | assumption | (simp; done) | fail) (by rfl) (by simp) ?_; (try simp [hne, hk, del, Nat.add_assoc]))
    | (refine CallP.ok1 (hw2 _ (by first | omega | (simp; done) | (simp; omega) | fail)) (by first | (simp [hne, hk, del, Nat.add_assoc, getK_cons, getK, getK_append, getK_del]; done) | fail) (by rfl) (by first | assumption | (simp; done) | fail) (by rfl) (by simp) ?_; (try simp [hne, hk, del, Nat.add_assoc]))
    | (refine CallP.ok1 (hb _ (by first | omega | (simp; done) | (simp; omega) | fail)) (by first | (simp [hne, hk, del, Nat.add_assoc, getK_cons, getK, getK_append, getK_del]; done) | fail) (by rfl) (by first | assumption | (simp; done) | fail) (by rfl) (by simp) ?_; (try simp [hne, hk, del, Nat.add_assoc]))
    | (refine CallP.ok1 (hw3 _ (by first | omega | (simp; done) | (simp; omega) | fail)) (by first | (simp [hne, hk, del, Nat.add_assoc, getK_cons, getK, getK_append, getK_del]; done) | fail) (by rfl) (by first | assumption | (simp; done) | fail) (by rfl) (by simp) ?_; (try simp [hne, hk, del, Nat.add_assoc]))
    | (refine CallP_frzV (by first | rfl | fail) ?_; simp [hne, hk, del, Nat.add_assoc, frzN, frz1, frz_env, frz_obs, St.frz, St.frzS, frzS, fv, fzVec, fzMap, fzBox, frzObS, frz_entD, frz_rowsD, del, frz, frzOb])
    | fail)
            (refine EndW.frzN 1 ?_; simp [frzN, frz1, frz_env, frz_obs, St.frz, St.frzS, frzS, fv, fzVec, fzMap, fzBox, frzObS, frz_entD, frz_rowsD, del, frz, frzOb, hne, Nat.add_assoc])
            refine EndW.norm ?_
            simp [St.norm, normOb, normD, normU, norm1, hne, Nat.add_assoc]
            (refine EndW.here ?_; (first | (refine EndOK.fin (.inr rfl) ?_) | (refine EndOK.fin (.inl rfl) ?_)); simp [resD, oneOrTup, Tryd.results98, hne, hi]; refine FinOK.cut [(i, pOb l q4)] (nx) (by simp [getK_cons, getK, getK_append, getK_del, Ob.under, D.under, under_rowsD, under_entD, hne, hi] <;> omega) (by simp [D.under]) (by simp [hn]) ?_; try simp)
            exact PPost.at_ok (by simp [PR.bind, *]; rfl) (by simp [Exp.row_eq, Exp.op, Exp.n, Exp.unit, Exp.s, Exp.args]) rfl

theorem primary_min {l : List Tok} (hl : TokOK l) {f p : Nat} (hE : ExpOK l f) (hf : 4 * (l.length - p) ≤ f) {t : Tok} (ht : l[p]? = some t) (hk : ¬ t.kind = 2) (h1 : isB l p [116, 114, 117, 101] = false) (h2 : isB l p [102, 97, 108, 115, 101] = false)
    (h3 : isB l p [109, 105, 110] = true) (h4 : isB l p [109, 97, 120] = false) {i nx : Nat} (hi : i < nx) :
    RetX Tryd.prog 98 [.ptr i 0] [(i, pOb l p)] nx (PPost l i nx expD (primaryP l (f + 1) p)) := by
  have hne := ne_facts hi
  have hp := (List.getElem?_eq_some_iff.1 ht).1
  have hnx := pnext_fun l p t ht hl.len
  have hll := hl.len
  have hp2 := isB_lt hl h3
  rw [primaryP, ht]
  have hh1 := fun nx' (h : nx ≤ nx') => has_ret l p [116, 114, 117, 101] i nx' (by omega) hp hl.len
  have hh2 := fun nx' (h : nx ≤ nx') => has_ret l p [102, 97, 108, 115, 101] i nx' (by omega) hp hl.len
  have hm1 := is_fun l p [109, 105, 110] hp hl.len
  have hm2 := is_fun l p [109, 97, 120] hp hl.len
  simp only [hk, h1, h2, h3, h4, if_false, if_true, Bool.false_eq_true, or_true, true_or] at hh1 hh2 hm1 hm2 ⊢
  have hw1 := fun nx' (h : nx ≤ nx') => want1 hl [40] (q := (p + 1)) (i := i) (nx := nx') (by omega) hp2
  cases hr0 : wantP l (p + 1) [[40]] with
  | stop pos e =>
    simp only [hr0] at hw1
    (refine RetX.of_bodyW Tryd.func98 rfl (by simp) fun Γ hn hpan => ?_); simp only [entry, List.zipIdx_cons, List.zipIdx_nil, List.map_cons, List.map_nil, Nat.zero_add, Tryd.ntmps98]
    repeat' (first
    | (refine H_cons ?_; simp [hne, hk, del, Nat.add_assoc])
    | (refine H_nil ?_; simp [hne, hk, del, Nat.add_assoc])
    | (refine ⟨by omega, ?_⟩)
    | (refine V_sseq ?_; simp [hne, hk, del, Nat.add_assoc])
    | (refine V_scond ?_; simp [hne, hk, del, Nat.add_assoc])
    | (refine V_skip ?_; simp only [RunK])
    | (refine CallP.fun_ (hnx) (by first | rfl | fail) (by first | assumption | (simp; done) | fail) (by first | (simp [hne, hk, del, Nat.add_assoc]; done) | (simp [hne, hk, del, Nat.add_assoc]; rfl) | fail) (by first | (simp; done) | fail) (fun d hd => ?_); subst hd; (try simp [hne, hk, del, Nat.add_assoc]))
    | (refine CallP.fun_ (hm1) (by first | rfl | fail) (by first | assumption | (simp; done) | fail) (by first | (simp [hne, hk, del, Nat.add_assoc]; done) | (simp [hne, hk, del, Nat.add_assoc]; rfl) | fail) (by first | (simp; done) | fail) (fun d hd => ?_); subst hd; (try simp [hne, hk, del, Nat.add_assoc]))
    | (refine CallP.fun_ (hm2) (by first | rfl | fail) (by first | assumption | (simp; done) | fail) (by first | (simp [hne, hk, del, Nat.add_assoc]; done) | (simp [hne, hk, del, Nat.add_assoc]; rfl) | fail) (by first | (simp; done) | fail) (fun d hd => ?_); subst hd; (try simp [hne, hk, del, Nat.add_assoc]))
    | (refine CallP.ok1 (hh1 _ (by first | omega | (simp; done) | (simp; omega) | fail)) (by first | (simp [hne, hk, del, Nat.add_assoc, getK_cons, getK, getK_append, getK_del]; done) | fail) (by rfl) (by first | assumption | (simp; done) | fail) (by rfl) (by simp) ?_; (try simp [hne, hk, del, Nat.add_assoc]))
    | (refine CallP.ok1 (hh2 _ (by first | omega | (simp; done) | (simp; omega) | fail)) (by first | (simp [hne, hk, del, Nat.add_assoc, getK_cons, getK, getK_append, getK_del]; done) | fail) (by rfl) (by first | assumption | (simp; done) | fail) (by rfl) (by simp) ?_; (try simp [hne, hk, del, Nat.add_assoc]))
    | (refine CallP.pan1 (hw1 _ (by first | omega | (simp; done) | (simp; omega) | fail)) (by first | (simp [hne, hk, del, Nat.add_assoc, getK_cons, getK, getK_append, getK_del]; done) | fail) (by rfl) (by first | assumption | (simp; done) | fail) (by rfl) (by simp) ?_; rintro ob' ⟨q', rfl⟩; refine ⟨_, Wk.refl _, ?_⟩)
    | (refine CallP_frzV (by first | rfl | fail) ?_; simp [hne, hk, del, Nat.add_assoc, frzN, frz1, frz_env, frz_obs, St.frz, St.frzS, frzS, fv, fzVec, fzMap, fzBox, frzObS, frz_entD, frz_rowsD, del, frz, frzOb])
    | fail)
    (refine hpan _ _ ⟨{ n := _, env := [], obs := [(i, pOb l q')], next := nx }, (Wk.cut rfl (by simp [hn]) (by simp [wkO, getK_cons, getK, getK_append, getK_del, Ob.under, D.under, under_rowsD, under_entD, hi, hne, getK_append, getK_del, getK_cons, getK]) (by simp [wkU, keepE, getK_cons, getK, D.under, hi, hne, getK_append, getK_del, getK_cons, getK]) (by simp [wkE, keepE, getK_cons, getK, hi, hne, getK_append, getK_del, getK_cons, getK])), by simp [hn], ?_⟩; try simp)
    exact PPost.at_stop (by simp [PR.bind, *])
  | ok v0 q0 =>
    simp only [hr0] at hw1
    obtain ⟨g0a, g0b⟩ := wantP_le hl _ hr0 hp2
    have ha := fun nx' (h : nx ≤ nx') => hE q0 0 i nx' (by omega) g0b (by omega) (by omega) (by omega)
    cases hr1 : expP l f q0 0 with
    | stop pos e =>
      simp only [hr1] at ha
      (refine RetX.of_bodyW Tryd.func98 rfl (by simp) fun Γ hn hpan => ?_); simp only [entry, List.zipIdx_cons, List.zipIdx_nil, List.map_cons, List.map_nil, Nat.zero_add, Tryd.ntmps98]
      repeat' (first
    | (refine H_cons ?_; simp [hne, hk, del, Nat.add_assoc])
    | (refine H_nil ?_; simp [hne, hk, del, Nat.add_assoc])
    | (refine ⟨by omega, ?_⟩)
    | (refine V_sseq ?_; simp [hne, hk, del, Nat.add_assoc])
    | (refine V_scond ?_; simp [hne, hk, del, Nat.add_assoc])
    | (refine V_skip ?_; simp only [RunK])
    | (refine CallP.fun_ (hnx) (by first | rfl | fail) (by first | assumption | (simp; done) | fail) (by first | (simp [hne, hk, del, Nat.add_assoc]; done) | (simp [hne, hk, del, Nat.add_assoc]; rfl) | fail) (by first | (simp; done) | fail) (fun d hd => ?_); subst hd; (try simp [hne, hk, del, Nat.add_assoc]))
    | (refine CallP.fun_ (hm1) (by first | rfl | fail) (by first | assumption | (simp; done) | fail) (by first | (simp [hne, hk, del, Nat.add_assoc]; done) | (simp [hne, hk, del, Nat.add_assoc]; rfl) | fail) (by first | (simp; done) | fail) (fun d hd => ?_); subst hd; (try simp [hne, hk, del, Nat.add_assoc]))
    | (refine CallP.fun_ (hm2) (by first | rfl | fail) (by first | assumption | (simp; done) | fail) (by first | (simp [hne, hk, del, Nat.add_assoc]; done) | (simp [hne, hk, del, Nat.add_assoc]; rfl) | fail) (by first | (simp; done) | fail) (fun d hd => ?_); subst hd; (try simp [hne, hk, del, Nat.add_assoc]))
    | (refine CallP.ok1 (hh1 _ (by first | omega | (simp; done) | (simp; omega) | fail)) (by first | (simp [hne, hk, del, Nat.add_assoc, getK_cons, getK, getK_append, getK_del]; done) | fail) (by rfl) (by first | assumption | (simp; done) | fail) (by rfl) (by simp) ?_; (try simp [hne, hk, del, Nat.add_assoc]))
    | (refine CallP.ok1 (hh2 _ (by first | omega | (simp; done) | (simp; omega) | fail)) (by first | (simp [hne, hk, del, Nat.add_assoc, getK_cons, getK, getK_append, getK_del]; done) | fail) (by rfl) (by first | assumption | (simp; done) | fail) (by rfl) (by simp) ?_; (try simp [hne, hk, del, Nat.add_assoc]))
    | (refine CallP.ok1 (hw1 _ (by first | omega | (simp; done) | (simp; omega) | fail)) (by first | (simp [hne, hk, del, Nat.add_assoc, getK_cons, getK, getK_append, getK_del]; done) | fail) (by rfl) (by first | assumption | (simp; done) | fail) (by rfl) (by simp) ?_; (try simp [hne, hk, del, Nat.add_assoc]))
    | (refine CallP.pan1 (ha _ (by first | omega | (simp; done) | (simp; omega) | fail)) (by first | (simp [hne, hk, del, Nat.add_assoc, getK_cons, getK, getK_append, getK_del]; done) | fail) (by rfl) (by first | assumption | (simp; done) | fail) (by rfl) (by simp) ?_; rintro ob' ⟨q', rfl⟩; refine ⟨_, Wk.refl _, ?_⟩)
    | (refine CallP_frzV (by first | rfl | fail) ?_; simp [hne, hk, del, Nat.add_assoc, frzN, frz1, frz_env, frz_obs, St.frz, St.frzS, frzS, fv, fzVec, fzMap, fzBox, frzObS, frz_entD, frz_rowsD, del, frz, frzOb])
    | fail)
      (refine hpan _ _ ⟨{ n := _, env := [], obs := [(i, pOb l q')], next := nx }, (Wk.cut rfl (by simp [hn]) (by simp [wkO, getK_cons, getK, getK_append, getK_del, Ob.under, D.under, under_rowsD, under_entD, hi, hne, getK_append, getK_del, getK_cons, getK]) (by simp [wkU, keepE, getK_cons, getK, D.under, hi, hne, getK_append, getK_del, getK_cons, getK]) (by simp [wkE, keepE, getK_cons, getK, hi, hne, getK_append, getK_del, getK_cons, getK])), by simp [hn], ?_⟩; try simp)
      exact PPost.at_stop (by simp [PR.bind, *])
    | ok v1 q1 =>
      have ha := fun nx' h => exp_ok (ha nx' h) hr1
      obtain ⟨g1a, g1b⟩ := (parse_le hl f).1 _ _ _ _ hr1 g0b
      have hw2 := fun nx' (h : nx ≤ nx') => want1 hl [44] (q := q1) (i := i) (nx := nx') (by omega) g1b
      cases hr2 : wantP l q1 [[44]] with
      | stop pos e =>
        simp only [hr2] at hw2
        (refine RetX.of_bodyW Tryd.func98 rfl (by simp) fun Γ hn hpan => ?_); simp only [entry, List.zipIdx_cons, List.zipIdx_nil, List.map_cons, List.map_nil, Nat.zero_add, Tryd.ntmps98]
        repeat' (first
    | (refine H_cons ?_; simp [hne, hk, del, Nat.add_assoc])
    | (refine H_nil ?_; simp [hne, hk, del, Nat.add_assoc])
    | (refine ⟨by omega, ?_⟩)
    | (refine V_sseq ?_; simp [hne, hk, del, Nat.add_assoc])
    | (refine V_scond ?_; simp [hne, hk, del, Nat.add_assoc])
    | (refine V_skip ?_; simp only [RunK])
    | (refine CallP.fun_ (hnx) (by first | rfl | fail) (by first | assumption | (simp; done) | fail) (by first | (simp [hne, hk, del, Nat.add_assoc]; done) | (simp [hne, hk, del, Nat.add_assoc]; rfl) | fail) (by first | (simp; done) | fail) (fun d hd => ?_); subst hd; (try simp [hne, hk, del, Nat.add_assoc]))
    | (refine CallP.fun_ (hm1) (by first | rfl | fail) (by first | assumption | (simp; done) | fail) (by first | (simp [hne, hk, del, Nat.add_assoc]; done) | (simp [hne, hk, del, Nat.add_assoc]; rfl) | fail) (by first | (simp; done) | fail) (fun d hd => ?_); subst hd; (try simp [hne, hk, del, Nat.add_assoc]))
    | (refine CallP.fun_ (hm2) (by first | rfl | fail) (by first | assumption | (simp; done) | fail) (by first | (simp [hne, hk, del, Nat.add_assoc]; done) | (simp [hne, hk, del, Nat.add_assoc]; rfl) | fail) (by first | (simp; done) | fail) (fun d hd => ?_); subst hd; (try simp [hne, hk, del, Nat.add_assoc]))
    | (refine CallP.ok1 (hh1 _ (by first | omega | (simp; done) | (simp; omega) | fail)) (by first | (simp [hne, hk, del, Nat.add_assoc, getK_cons, getK, getK_append, getK_del]; done) | fail) (by rfl) (by first | assumption | (simp; done) | fail) (by rfl) (by simp) ?_; (try simp [hne, hk, del, Nat.add_assoc]))
    | (refine CallP.ok1 (hh2 _ (by first | omega | (simp; done) | (simp; omega) | fail)) (by first | (simp [hne, hk, del, Nat.add_assoc, getK_cons, getK, getK_append, getK_del]; done) | fail) (by rfl) (by first | assumption | (simp; done) | fail) (by rfl) (by simp) ?_; (try simp [hne, hk, del, Nat.add_assoc]))
    | (refine CallP.ok1 (hw1 _ (by first | omega | (simp; done) | (simp; omega) | fail)) (by first | (simp [hne, hk, del, Nat.add_assoc, getK_cons, getK, getK_append, getK_del]; done) | fail) (by rfl) (by first | assumption | (simp; done) | fail) (by rfl) (by simp) ?_; (try simp [hne, hk, del, Nat.add_assoc]))
    | (refine CallP.ok1 (ha _ (by first | omega | (simp; done) | (simp; omega) | fail)) (by first | (simp [hne, hk, del, Nat.add_assoc, getK_cons, getK, getK_append, getK_del]; done) | fail) (by rfl) (by first | assumption | (simp; done) | fail) (by rfl) (by simp) ?_; (try simp [hne, hk, del, Nat.add_assoc]))
    | (refine CallP.pan1 (hw2 _ (by first | omega | (simp; done) | (simp; omega) | fail)) (by first | (simp [hne, hk, del, Nat.add_assoc, getK_cons, getK, getK_append, getK_del]; done) | fail) (by rfl) (by first | assumption | (simp; done) | fail) (by rfl) (by simp) ?_; rintro ob' ⟨q', rfl⟩; refine ⟨_, Wk.refl _, ?_⟩)
    | (refine CallP_frzV (by first | rfl | fail) ?_; simp [hne, hk, del, Nat.add_assoc, frzN, frz1, frz_env, frz_obs, St.frz, St.frzS, frzS, fv, fzVec, fzMap, fzBox, frzObS, frz_entD, frz_rowsD, del, frz, frzOb])
    | fail)
        (refine hpan _ _ ⟨{ n := _, env := [], obs := [(i, pOb l q')], next := nx }, (Wk.cut rfl (by simp [hn]) (by simp [wkO, getK_cons, getK, getK_append, getK_del, Ob.under, D.under, under_rowsD, under_entD, hi, hne, getK_append, getK_del, getK_cons, getK]) (by simp [wkU, keepE, getK_cons, getK, D.under, hi, hne, getK_append, getK_del, getK_cons, getK]) (by simp [wkE, keepE, getK_cons, getK, hi, hne, getK_append, getK_del, getK_cons, getK])), by simp [hn], ?_⟩; try simp)
        exact PPost.at_stop (by simp [PR.bind, *])
      | ok v2 q2 =>
        simp only [hr2] at hw2
        obtain ⟨g2a, g2b⟩ := wantP_le hl _ hr2 g1b
        have hb := fun nx' (h : nx ≤ nx') => hE q2 0 i nx' (by omega) g2b (by omega) (by omega) (by omega)
        cases hr3 : expP l f q2 0 with
        | stop pos e =>
          simp only [hr3] at hb
          (refine RetX.of_bodyW Tryd.func98 rfl (by simp) fun Γ hn hpan => ?_); simp only [entry, List.zipIdx_cons, List.zipIdx_nil, List.map_cons, List.map_nil, Nat.zero_add, Tryd.ntmps98]
          repeat' (first
    | (refine H_cons ?_; simp [hne, hk, del, Nat.add_assoc])
    | (refine H_nil ?_; simp [hne, hk, del, Nat.add_assoc])
    | (refine ⟨by omega, ?_⟩)
    | (refine V_sseq ?_; simp [hne, hk, del, Nat.add_assoc])
    | (refine V_scond ?_; simp [hne, hk, del, Nat.add_assoc])
    | (refine V_skip ?_; simp only [RunK])
    | (refine CallP.fun_ (hnx) (by first | rfl | fail) (by first | assumption | (simp; done) | fail) (by first | (simp [hne, hk, del, Nat.add_assoc]; done) | (simp [hne, hk, del, Nat.add_assoc]; rfl) | fail) (by first | (simp; done) | fail) (fun d hd => ?_); subst hd; (try simp [hne, hk, del, Nat.add_assoc]))
    | (refine CallP.fun_ (hm1) (by first | rfl | fail) (by first | assumption | (simp; done) | fail) (by first | (simp [hne, hk, del, Nat.add_assoc]; done) | (simp [hne, hk, del, Nat.add_assoc]; rfl) | fail) (by first | (simp; done) | fail) (fun d hd => ?_); subst hd; (try simp [hne, hk, del, Nat.add_assoc]))
    | (refine CallP.fun_ (hm2) (by first | rfl | fail) (by first | assumption | (simp; done) | fail) (by first | (simp [hne, hk, del, Nat.add_assoc]; done) | (simp [hne, hk, del, Nat.add_assoc]; rfl) | fail) (by first | (simp; done) | fail) (fun d hd => ?_); subst hd; (try simp [hne, hk, del, Nat.add_assoc]))
    | (refine CallP.ok1 (hh1 _ (by first | omega | (simp; done) | (simp; omega) | fail)) (by first | (simp [hne, hk, del, Nat.add_assoc, getK_cons, getK, getK_append, getK_del]; done) | fail) (by rfl) (by first | assumption | (simp; done) | fail) (by rfl) (by simp) ?_; (try simp [hne, hk, del, Nat.add_assoc]))
    | (refine CallP.ok1 (hh2 _ (by first | omega | (simp; done) | (simp; omega) | fail)) (by first | (simp [hne, hk, del, Nat.add_assoc, getK_cons, getK, getK_append, getK_del]; done) | fail) (by rfl) (by first | assumption | (simp; done) | fail) (by rfl) (by simp) ?_; (try simp [hne, hk, del, Nat.add_assoc]))
    | (refine CallP.ok1 (hw1 _ (by first | omega | (simp; done) | (simp; omega) | fail)) (by first | (simp [hne, hk, del, Nat.add_assoc, getK_cons, getK, getK_append, getK_del]; done) | fail) (by rfl) (by first | assumption | (simp; done) | fail) (by rfl) (by simp) ?_; (try simp [hne, hk, del, Nat.add_assoc]))
    | (refine CallP.ok1 (ha _ (by first | omega | (simp; done) | (simp; omega) | fail)) (by first | (simp [hne, hk, del, Nat.add_assoc, getK_cons, getK, getK_append, getK_del]; done) | fail) (by rfl) (by first | assumption | (simp; done) | fail) (by rfl) (by simp) ?_; (try simp [hne, hk, del, Nat.add_assoc]))
    | (refine CallP.ok1 (hw2 _ (by first | omega | (simp; done) | (simp; omega) | fail)) (by first | (simp [hne, hk, del, Nat.add_assoc, getK_cons, getK, getK_append, getK_del]; done) | fail) (by rfl) (by first | assumption | (simp; done) | fail) (by rfl) (by simp) ?_; (try simp [hne, hk, del, Nat.add_assoc]))
    | (refine CallP.pan1 (hb _ (by first | omega | (simp; done) | (simp; omega) | fail)) (by first | (simp [hne, hk, del, Nat.add_assoc, getK_cons, getK, getK_append, getK_del]; done) | fail) (by rfl) (by first | assumption | (simp; done) | fail) (by rfl) (by simp) ?_; rintro ob' ⟨q', rfl⟩; refine ⟨_, Wk.refl _, ?_⟩)
    | (refine CallP_frzV (by first | rfl | fail) ?_; simp [hne, hk, del, Nat.add_assoc, frzN, frz1, frz_env, frz_obs, St.frz, St.frzS, frzS, fv, fzVec, fzMap, fzBox, frzObS, frz_entD, frz_rowsD, del, frz, frzOb])
    | fail)
          (refine hpan _ _ ⟨{ n := _, env := [], obs := [(i, pOb l q')], next := nx }, (Wk.cut rfl (by simp [hn]) (by simp [wkO, getK_cons, getK, getK_append, getK_del, Ob.under, D.under, under_rowsD, under_entD, hi, hne, getK_append, getK_del, getK_cons, getK]) (by simp [wkU, keepE, getK_cons, getK, D.under, hi, hne, getK_append, getK_del, getK_cons, getK]) (by simp [wkE, keepE, getK_cons, getK, hi, hne, getK_append, getK_del, getK_cons, getK])), by simp [hn], ?_⟩; try simp)
          exact PPost.at_stop (by simp [PR.bind, *])
        | ok v3 q3 =>
          have hb := fun nx' h => exp_ok (hb nx' h) hr3
          obtain ⟨g3a, g3b⟩ := (parse_le hl f).1 _ _ _ _ hr3 g2b
          have hw3 := fun nx' (h : nx ≤ nx') => want1 hl [41] (q := q3) (i := i) (nx := nx') (by omega) g3b
          cases hr4 : wantP l q3 [[41]] with
          | stop pos e =>
            simp only [hr4] at hw3
            (refine RetX.of_bodyW Tryd.func98 rfl (by simp) fun Γ hn hpan => ?_); simp only [entry, List.zipIdx_cons, List.zipIdx_nil, List.map_cons, List.map_nil, Nat.zero_add, Tryd.ntmps98]
            repeat' (first
    | (refine H_cons ?_; simp [hne, hk, del, Nat.add_assoc])
    | (refine H_nil ?_; simp [hne, hk, del, Nat.add_assoc])
    | (refine ⟨by omega, ?_⟩)
    | (refine V_sseq ?_; simp [hne, hk, del, Nat.add_assoc])
    | (refine V_scond ?_; simp [hne, hk, del, Nat.add_assoc])
    | (refine V_skip ?_; simp only [RunK])
    | (refine CallP.fun_ (hnx) (by first | rfl | fail) (by first | assumption | (simp; done) | fail) (by first | (simp [hne, hk, del, Nat.add_assoc]; done) | (simp [hne, hk, del, Nat.add_assoc]; rfl) | fail) (by first | (simp; done) | fail) (fun d hd => ?_); subst hd; (try simp [hne, hk, del, Nat.add_assoc]))
    | (refine CallP.fun_ (hm1) (by first | rfl | fail) (by first | assumption | (simp; done) | fail) (by first | (simp [hne, hk, del, Nat.add_assoc]; done) | (simp [hne, hk, del, Nat.add_assoc]; rfl) | fail) (by first | (simp; done) | fail) (fun d hd => ?_); subst hd; (try simp [hne, hk, del, Nat.add_assoc]))
    | (refine CallP.fun_ (hm2) (by first | rfl | fail) (by first | assumption | (simp; done) | fail) (by first | (simp [hne, hk, del, Nat.add_assoc]; done) | (simp [hne, hk, del, Nat.add_assoc]; rfl) | fail) (by first | (simp; done) | fail) (fun d hd => ?_); subst hd; (try simp [hne, hk, del, Nat.add_assoc]))
    | (refine CallP.ok1 (hh1 _ (by first | omega | (simp; done) | (simp; omega) | fail)) (by first | (simp [hne, hk, del, Nat.add_assoc, getK_cons, getK, getK_append, getK_del]; done) | fail) (by rfl) (by first | assumption | (simp; done) | fail) (by rfl) (by simp) ?_; (try simp [hne, hk, del, Nat.add_assoc]))
    | (refine CallP.ok1 (hh2 _ (by first | omega | (simp; done) | (simp; omega) | fail)) (by first | (simp [hne, hk, del, Nat.add_assoc, getK_cons, getK, getK_append, getK_del]; done) | fail) (by rfl) (by first | assumption | (simp; done) | fail) (by rfl) (by simp) ?_; (try simp [hne, hk, del, Nat.add_assoc]))
    | (refine CallP.ok1 (hw1 _ (by first | omega | (simp; done) | (simp; omega) | fail)) (by first | (simp [hne, hk, del, Nat.add_assoc, getK_cons, getK, getK_append, getK_del]; done) | fail) (by rfl) (by first | assumption | (simp; done) | fail) (by rfl) (by simp) ?_; (try simp [hne, hk, del, Nat.add_assoc]))
    | (refine CallP.ok1 (ha _ (by first | omega | (simp; done) | (simp; omega) | fail)) (by first | (simp [hne, hk, del, Nat.add_assoc, getK_cons, getK, getK_append, getK_del]; done) | fail) (by rfl) (by first | assumption | (simp; done) | fail) (by rfl) (by simp) ?_; (try simp [hne, hk, del, Nat.add_assoc]))
    | (refine CallP.ok1 (hw2 _ (by first | omega | (simp; done) | (simp; omega) | fail)) (by first | (simp [hne, hk, del, Nat.add_assoc, getK_cons, getK, getK_append, getK_del]; done) | fail) (by rfl) (by first | assumption | (simp; done) | fail) (by rfl) (by simp) ?_; (try simp [hne, hk, del, Nat.add_assoc]))
    | (refine CallP.ok1 (hb _ (by first | omega | (simp; done) | (simp; omega) | fail)) (by first | (simp [hne, hk, del, Nat.add_assoc, getK_cons, getK, getK_append, getK_del]; done) | fail) (by rfl) (by first | assumption | (simp; done) | fail) (by rfl) (by simp) ?_; (try simp [hne, hk, del, Nat.add_assoc]))
    | (refine CallP.pan1 (hw3 _ (by first | omega | (simp; done) | (simp; omega) | fail)) (by first | (simp [hne, hk, del, Nat.add_assoc, getK_cons, getK, getK_append, getK_del]; done) | fail) (by rfl) (by first | assumption | (simp; done) | fail) (by rfl) (by simp) ?_; rintro ob' ⟨q', rfl⟩; refine ⟨_, Wk.refl _, ?_⟩)
    | (refine CallP_frzV (by first | rfl | fail) ?_; simp [hne, hk, del, Nat.add_assoc, frzN, frz1, frz_env, frz_obs, St.frz, St.frzS, frzS, fv, fzVec, fzMap, fzBox, frzObS, frz_entD, frz_rowsD, del, frz, frzOb])
    | fail)
            (refine hpan _ _ ⟨{ n := _, env := [], obs := [(i, pOb l q')], next := nx }, (Wk.cut rfl (by simp [hn]) (by simp [wkO, getK_cons, getK, getK_append, getK_del, Ob.under, D.under, under_rowsD, under_entD, hi, hne, getK_append, getK_del, getK_cons, getK]) (by simp [wkU, keepE, getK_cons, getK, D.under, hi, hne, getK_append, getK_del, getK_cons, getK]) (by simp [wkE, keepE, getK_cons, getK, hi, hne, getK_append, getK_del, getK_cons, getK])), by simp [hn], ?_⟩; try simp)
            exact PPost.at_stop (by simp [PR.bind, *])
          | ok v4 q4 =>
            simp only [hr4] at hw3
            obtain ⟨g4a, g4b⟩ := wantP_le hl _ hr4 g3b
            (refine RetX.of_bodyW Tryd.func98 rfl (by simp) fun Γ hn hpan => ?_); simp only [entry, List.zipIdx_cons, List.zipIdx_nil, List.map_cons, List.map_nil, Nat.zero_add, Tryd.ntmps98]
            repeat' (first
    | (refine H_cons ?_; simp [hne, hk, del, Nat.add_assoc])
    | (refine H_nil ?_; simp [hne, hk, del, Nat.add_assoc])
    | (refine ⟨by omega, ?_⟩)
    | (refine V_sseq ?_; simp [hne, hk, del, Nat.add_assoc])
    | (refine V_scond ?_; simp [hne, hk, del, Nat.add_assoc])
    | (refine V_ret ?_; simp only [RunK])
    | (refine V_skip ?_; simp only [RunK])
    | (refine CallP.fun_ (hnx) (by first | rfl | fail) (by first | assumption | (simp; done) | fail) (by first | (simp [hne, hk, del, Nat.add_assoc]; done) | (simp [hne, hk, del, Nat.add_assoc]; rfl) | fail) (by first | (simp; done) | fail) (fun d hd => ?_); subst hd; (try simp [hne, hk, del, Nat.add_assoc]))
    | (refine CallP.fun_ (hm1) (by first | rfl | fail) (by first | assumption | (simp; done) | fail) (by first | (simp [hne, hk, del, Nat.add_assoc]; done) | (simp [hne, hk, del, Nat.add_assoc]; rfl) | fail) (by first | (simp; done) | fail) (fun d hd => ?_); subst hd; (try simp [hne, hk, del, Nat.add_assoc]))
    | (refine CallP.fun_ (hm2) (by first | rfl | fail) (by first | assumption | (simp; done) | fail) (by first | (simp [hne, hk, del, Nat.add_assoc]; done) | (simp [hne, hk, del, Nat.add_assoc]; rfl) | fail) (by first | (simp; done) | fail) (fun d hd => ?_); subst hd; (try simp [hne, hk, del, Nat.add_assoc]))
    | (refine CallP.ok1 (hh1 _ (by first | omega | (simp; done) | (simp; omega) | fail)) (by first | (simp [hne, hk, del, Nat.add_assoc, getK_cons, getK, getK_append, getK_del]; done) | fail) (by rfl) (by first | assumption | (simp; done) | fail) (by rfl) (by simp) ?_; (try simp [hne, hk, del, Nat.add_assoc]))
    | (refine CallP.ok1 (hh2 _ (by first | omega | (simp; done) | (simp; omega) | fail)) (by first | (simp [hne, hk, del, Nat.add_assoc, getK_cons, getK, getK_append, getK_del]; done) | fail) (by rfl) (by first | assumption | (simp; done) | fail) (by rfl) (by simp) ?_; (try simp [hne, hk, del, Nat.add_assoc]))
    | (refine CallP.ok1 (hw1 _ (by first | omega | (simp; done) | (simp; omega) | fail)) (by first | (simp [hne, hk, del, Nat.add_assoc, getK_cons, getK, getK_append, getK_del]; done) | fail) (by rfl) (by first | assumption | (simp; done) | fail) (by rfl) (by simp) ?_; (try simp [hne, hk, del, Nat.add_assoc]))
    | (refine CallP.ok1 (ha _ (by first | omega | (simp; done) | (simp; omega) | fail)) (by first | (simp [hne, hk, del, Nat.add_assoc, getK_cons, getK, getK_append, getK_del]; done) | fail) (by rfl) (by first | assumption | (simp; done) | fail) (by rfl) (by simp) ?_; (try simp [hne, hk, del, Nat.add_assoc]))
    | (refine CallP.ok1 (hw2 _ (by first | omega | (simp; done) | (simp; omega) | fail)) (by first | (simp [hne, hk, del, Nat.add_assoc, getK_cons, getK, getK_append, getK_del]; done) | fail) (by rfl) (by first | assumption | (simp; done) | fail) (by rfl) (by simp) ?_; (try simp [hne, hk, del, Nat.add_assoc]))
    | (refine CallP.ok1 (hb _ (by first | omega | (simp; done) | (simp; omega) | fail)) (by first | (simp [hne, hk, del, Nat.add_assoc, getK_cons, getK, getK_append, getK_del]; done) | fail) (by rfl) (by first | assumption | (simp; done) | fail) (by rfl) (by simp) ?_; (try simp [hne, hk, del, Nat.add_assoc]))
    | (refine CallP.ok1 (hw3 _ (by first | omega | (simp; done) | (simp; omega) | fail)) (by first | (simp [hne, hk, del, Nat.add_assoc, getK_cons, getK, getK_append, getK_del]; done) | fail) (by rfl) (by first | assumption | (simp; done) | fail) (by rfl) (by simp) ?_; (try simp [hne, hk, del, Nat.add_assoc]))
    | (refine CallP_frzV (by first | rfl | fail) ?_; simp [hne, hk, del, Nat.add_assoc, frzN, frz1, frz_env, frz_obs, St.frz, St.frzS, frzS, fv, fzVec, fzMap, fzBox, frzObS, frz_entD, frz_rowsD, del, frz, frzOb])
    | fail)
            (refine EndW.frzN 1 ?_; simp [frzN, frz1, frz_env, frz_obs, St.frz, St.frzS, frzS, fv, fzVec, fzMap, fzBox, frzObS, frz_entD, frz_rowsD, del, frz, frzOb, hne, Nat.add_assoc])
            refine EndW.norm ?_
            simp [St.norm, normOb, normD, normU, norm1, hne, Nat.add_assoc]
            (refine EndW.here ?_; (first | (refine EndOK.fin (.inr rfl) ?_) | (refine EndOK.fin (.inl rfl) ?_)); simp [resD, oneOrTup, Tryd.results98, hne, hi]; refine FinOK.cut [(i, pOb l q4)] (nx) (by simp [getK_cons, getK, getK_append, getK_del, Ob.under, D.under, under_rowsD, under_entD, hne, hi] <;> omega) (by simp [D.under]) (by simp [hn]) ?_; try simp)
            exact PPost.at_ok (by simp [PR.bind, *]; rfl) (by simp [Exp.row_eq, Exp.op, Exp.n, Exp.unit, Exp.s, Exp.args]) rfl

theorem primary_name {l : List Tok} (hl : TokOK l) {f p : Nat} {t : Tok} (ht : l[p]? = some t) (hk : ¬ t.kind = 2) (h1 : isB l p [116, 114, 117, 101] = false) (h2 : isB l p [102, 97, 108, 115, 101] = false)
    (h3 : isB l p [109, 105, 110] = false) (h4 : isB l p [109, 97, 120] = false) (h5 : isB l p [40] = false) {i nx : Nat} (hi : i < nx) :
    RetX Tryd.prog 98 [.ptr i 0] [(i, pOb l p)] nx (PPost l i nx expD (primaryP l (f + 1) p)) := by
  have hne := ne_facts hi
  have hp := (List.getElem?_eq_some_iff.1 ht).1
  have hnx := pnext_fun l p t ht hl.len
  have hll := hl.len
  rw [primaryP, ht]
  have hh1 := fun nx' (h : nx ≤ nx') => has_ret l p [116, 114, 117, 101] i nx' (by omega) hp hl.len
  have hh2 := fun nx' (h : nx ≤ nx') => has_ret l p [102, 97, 108, 115, 101] i nx' (by omega) hp hl.len
  have hm1 := is_fun l p [109, 105, 110] hp hl.len
  have hm2 := is_fun l p [109, 97, 120] hp hl.len
  have hh3 := fun nx' (h : nx ≤ nx') => has_ret l p [40] i nx' (by omega) hp hl.len
  have hnm := name_fun t.text
  have hc1 := fun nx' (h : nx ≤ nx') => check_ok l p 12 i nx' (by omega)
  have hc2 := fun nx' (h : nx ≤ nx') => check_pan l p t 12 i nx' (by omega) ht hl.len
  simp only [hk, h1, h2, h3, h4, h5, if_false, if_true, Bool.false_eq_true, or_self] at hh1 hh2 hm1 hm2 hh3 ⊢
  by_cases hw : t.kind = 1
  · cases hb : nameB t.text with
    | true =>
      simp only [hb, hw, and_self, if_true] at hnm ⊢
      (refine RetX.of_bodyW Tryd.func98 rfl (by simp) fun Γ hn hpan => ?_); simp only [entry, List.zipIdx_cons, List.zipIdx_nil, List.map_cons, List.map_nil, Nat.zero_add, Tryd.ntmps98]
      repeat' (first
    | (refine H_cons ?_; simp [hne, hk, hw, del, Nat.add_assoc])
    | (refine H_nil ?_; simp [hne, hk, hw, del, Nat.add_assoc])
    | (refine ⟨by omega, ?_⟩)
    | (refine V_sseq ?_; simp [hne, hk, hw, del, Nat.add_assoc])
    | (refine V_scond ?_; simp [hne, hk, hw, del, Nat.add_assoc])
    | (refine V_ret ?_; simp only [RunK])
    | (refine V_skip ?_; simp only [RunK])
    | (refine CallP.fun_ (hnx) (by first | rfl | fail) (by first | assumption | (simp; done) | fail) (by first | (simp [hne, hk, hw, del, Nat.add_assoc]; done) | (simp [hne, hk, hw, del, Nat.add_assoc]; rfl) | fail) (by first | (simp; done) | fail) (fun d hd => ?_); subst hd; (try simp [hne, hk, hw, del, Nat.add_assoc]))
    | (refine CallP.fun_ (hm1) (by first | rfl | fail) (by first | assumption | (simp; done) | fail) (by first | (simp [hne, hk, hw, del, Nat.add_assoc]; done) | (simp [hne, hk, hw, del, Nat.add_assoc]; rfl) | fail) (by first | (simp; done) | fail) (fun d hd => ?_); subst hd; (try simp [hne, hk, hw, del, Nat.add_assoc]))
    | (refine CallP.fun_ (hm2) (by first | rfl | fail) (by first | assumption | (simp; done) | fail) (by first | (simp [hne, hk, hw, del, Nat.add_assoc]; done) | (simp [hne, hk, hw, del, Nat.add_assoc]; rfl) | fail) (by first | (simp; done) | fail) (fun d hd => ?_); subst hd; (try simp [hne, hk, hw, del, Nat.add_assoc]))
    | (refine CallP.fun_ (hnm) (by first | rfl | fail) (by first | assumption | (simp; done) | fail) (by first | (simp [hne, hk, hw, del, Nat.add_assoc]; done) | (simp [hne, hk, hw, del, Nat.add_assoc]; rfl) | fail) (by first | (simp; done) | fail) (fun d hd => ?_); subst hd; (try simp [hne, hk, hw, del, Nat.add_assoc]))
    | (refine CallP.ok1 (hh1 _ (by first | omega | (simp; done) | (simp; omega) | fail)) (by first | (simp [hne, hk, hw, del, Nat.add_assoc, getK_cons, getK, getK_append, getK_del]; done) | fail) (by rfl) (by first | assumption | (simp; done) | fail) (by rfl) (by simp) ?_; (try simp [hne, hk, hw, del, Nat.add_assoc]))
    | (refine CallP.ok1 (hh2 _ (by first | omega | (simp; done) | (simp; omega) | fail)) (by first | (simp [hne, hk, hw, del, Nat.add_assoc, getK_cons, getK, getK_append, getK_del]; done) | fail) (by rfl) (by first | assumption | (simp; done) | fail) (by rfl) (by simp) ?_; (try simp [hne, hk, hw, del, Nat.add_assoc]))
    | (refine CallP.ok1 (hh3 _ (by first | omega | (simp; done) | (simp; omega) | fail)) (by first | (simp [hne, hk, hw, del, Nat.add_assoc, getK_cons, getK, getK_append, getK_del]; done) | fail) (by rfl) (by first | assumption | (simp; done) | fail) (by rfl) (by simp) ?_; (try simp [hne, hk, hw, del, Nat.add_assoc]))
    | (refine CallP.ok1 (hc1 _ (by first | omega | (simp; done) | (simp; omega) | fail)) (by first | (simp [hne, hk, hw, del, Nat.add_assoc, getK_cons, getK, getK_append, getK_del]; done) | fail) (by rfl) (by first | assumption | (simp; done) | fail) (by rfl) (by simp) ?_; (try simp [hne, hk, hw, del, Nat.add_assoc]))
    | fail)
      refine EndW.norm ?_
      simp [St.norm, normOb, normD, normU, norm1, hne]
      (refine EndW.here ?_; (first | (refine EndOK.fin (.inr rfl) ?_) | (refine EndOK.fin (.inl rfl) ?_)); simp [resD, oneOrTup, Tryd.results98, hne, hi]; refine FinOK.cut [(i, pOb l (p + 1))] (nx) (by simp [getK_cons, getK, getK_append, getK_del, Ob.under, D.under, under_rowsD, under_entD, hne, hi] <;> omega) (by simp [D.under]) (by simp [hn]) ?_; try simp)
      exact PPost.at_ok rfl (by simp [Exp.row]) rfl
    | false =>
      simp only [hb, hw, Bool.false_eq_true, and_false, if_false] at hnm ⊢
      (refine RetX.of_bodyW Tryd.func98 rfl (by simp) fun Γ hn hpan => ?_); simp only [entry, List.zipIdx_cons, List.zipIdx_nil, List.map_cons, List.map_nil, Nat.zero_add, Tryd.ntmps98]
      repeat' (first
    | (refine H_cons ?_; simp [hne, hk, hw, del, Nat.add_assoc])
    | (refine H_nil ?_; simp [hne, hk, hw, del, Nat.add_assoc])
    | (refine V_sseq ?_; simp [hne, hk, hw, del, Nat.add_assoc])
    | (refine V_scond ?_; simp [hne, hk, hw, del, Nat.add_assoc])
    | (refine V_skip ?_; simp only [RunK])
    | (refine CallP.fun_ (hnx) (by first | rfl | fail) (by first | assumption | (simp; done) | fail) (by first | (simp [hne, hk, hw, del, Nat.add_assoc]; done) | (simp [hne, hk, hw, del, Nat.add_assoc]; rfl) | fail) (by first | (simp; done) | fail) (fun d hd => ?_); subst hd; (try simp [hne, hk, hw, del, Nat.add_assoc]))
    | (refine CallP.fun_ (hm1) (by first | rfl | fail) (by first | assumption | (simp; done) | fail) (by first | (simp [hne, hk, hw, del, Nat.add_assoc]; done) | (simp [hne, hk, hw, del, Nat.add_assoc]; rfl) | fail) (by first | (simp; done) | fail) (fun d hd => ?_); subst hd; (try simp [hne, hk, hw, del, Nat.add_assoc]))
    | (refine CallP.fun_ (hm2) (by first | rfl | fail) (by first | assumption | (simp; done) | fail) (by first | (simp [hne, hk, hw, del, Nat.add_assoc]; done) | (simp [hne, hk, hw, del, Nat.add_assoc]; rfl) | fail) (by first | (simp; done) | fail) (fun d hd => ?_); subst hd; (try simp [hne, hk, hw, del, Nat.add_assoc]))
    | (refine CallP.fun_ (hnm) (by first | rfl | fail) (by first | assumption | (simp; done) | fail) (by first | (simp [hne, hk, hw, del, Nat.add_assoc]; done) | (simp [hne, hk, hw, del, Nat.add_assoc]; rfl) | fail) (by first | (simp; done) | fail) (fun d hd => ?_); subst hd; (try simp [hne, hk, hw, del, Nat.add_assoc]))
    | (refine CallP.ok1 (hh1 _ (by first | omega | (simp; done) | (simp; omega) | fail)) (by first | (simp [hne, hk, hw, del, Nat.add_assoc, getK_cons, getK, getK_append, getK_del]; done) | fail) (by rfl) (by first | assumption | (simp; done) | fail) (by rfl) (by simp) ?_; (try simp [hne, hk, hw, del, Nat.add_assoc]))
    | (refine CallP.ok1 (hh2 _ (by first | omega | (simp; done) | (simp; omega) | fail)) (by first | (simp [hne, hk, hw, del, Nat.add_assoc, getK_cons, getK, getK_append, getK_del]; done) | fail) (by rfl) (by first | assumption | (simp; done) | fail) (by rfl) (by simp) ?_; (try simp [hne, hk, hw, del, Nat.add_assoc]))
    | (refine CallP.ok1 (hh3 _ (by first | omega | (simp; done) | (simp; omega) | fail)) (by first | (simp [hne, hk, hw, del, Nat.add_assoc, getK_cons, getK, getK_append, getK_del]; done) | fail) (by rfl) (by first | assumption | (simp; done) | fail) (by rfl) (by simp) ?_; (try simp [hne, hk, hw, del, Nat.add_assoc]))
    | (refine CallP.pan1 (hc2 _ (by first | omega | (simp; done) | (simp; omega) | fail)) (by first | (simp [hne, hk, hw, del, Nat.add_assoc, getK_cons, getK, getK_append, getK_del]; done) | fail) (by rfl) (by first | assumption | (simp; done) | fail) (by rfl) (by simp) ?_; rintro ob' ⟨q', rfl⟩; refine ⟨_, Wk.refl _, ?_⟩)
    | fail)
      (refine hpan _ _ ⟨{ n := _, env := [], obs := [(i, pOb l q')], next := nx }, (Wk.cut rfl (by simp [hn]) (by simp [wkO, getK_cons, getK, getK_append, getK_del, Ob.under, D.under, under_rowsD, under_entD, hi, hne, getK_append, getK_del, getK_cons, getK]) (by simp [wkU, keepE, getK_cons, getK, D.under, hi, hne, getK_append, getK_del, getK_cons, getK]) (by simp [wkE, keepE, getK_cons, getK, hi, hne, getK_append, getK_del, getK_cons, getK])), by simp [hn], ?_⟩; try simp)
      exact PPost.at_stop rfl
  · simp only [hw, false_and, if_false]
    (refine RetX.of_bodyW Tryd.func98 rfl (by simp) fun Γ hn hpan => ?_); simp only [entry, List.zipIdx_cons, List.zipIdx_nil, List.map_cons, List.map_nil, Nat.zero_add, Tryd.ntmps98]
    repeat' (first
    | (refine H_cons ?_; simp [hne, hk, hw, del, Nat.add_assoc])
    | (refine H_nil ?_; simp [hne, hk, hw, del, Nat.add_assoc])
    | (refine V_sseq ?_; simp [hne, hk, hw, del, Nat.add_assoc])
    | (refine V_scond ?_; simp [hne, hk, hw, del, Nat.add_assoc])
    | (refine V_skip ?_; simp only [RunK])
    | (refine CallP.fun_ (hnx) (by first | rfl | fail) (by first | assumption | (simp; done) | fail) (by first | (simp [hne, hk, hw, del, Nat.add_assoc]; done) | (simp [hne, hk, hw, del, Nat.add_assoc]; rfl) | fail) (by first | (simp; done) | fail) (fun d hd => ?_); subst hd; (try simp [hne, hk, hw, del, Nat.add_assoc]))
    | (refine CallP.fun_ (hm1) (by first | rfl | fail) (by first | assumption | (simp; done) | fail) (by first | (simp [hne, hk, hw, del, Nat.add_assoc]; done) | (simp [hne, hk, hw, del, Nat.add_assoc]; rfl) | fail) (by first | (simp; done) | fail) (fun d hd => ?_); subst hd; (try simp [hne, hk, hw, del, Nat.add_assoc]))
    | (refine CallP.fun_ (hm2) (by first | rfl | fail) (by first | assumption | (simp; done) | fail) (by first | (simp [hne, hk, hw, del, Nat.add_assoc]; done) | (simp [hne, hk, hw, del, Nat.add_assoc]; rfl) | fail) (by first | (simp; done) | fail) (fun d hd => ?_); subst hd; (try simp [hne, hk, hw, del, Nat.add_assoc]))
    | (refine CallP.ok1 (hh1 _ (by first | omega | (simp; done) | (simp; omega) | fail)) (by first | (simp [hne, hk, hw, del, Nat.add_assoc, getK_cons, getK, getK_append, getK_del]; done) | fail) (by rfl) (by first | assumption | (simp; done) | fail) (by rfl) (by simp) ?_; (try simp [hne, hk, hw, del, Nat.add_assoc]))
    | (refine CallP.ok1 (hh2 _ (by first | omega | (simp; done) | (simp; omega) | fail)) (by first | (simp [hne, hk, hw, del, Nat.add_assoc, getK_cons, getK, getK_append, getK_del]; done) | fail) (by rfl) (by first | assumption | (simp; done) | fail) (by rfl) (by simp) ?_; (try simp [hne, hk, hw, del, Nat.add_assoc]))
    | (refine CallP.ok1 (hh3 _ (by first | omega | (simp; done) | (simp; omega) | fail)) (by first | (simp [hne, hk, hw, del, Nat.add_assoc, getK_cons, getK, getK_append, getK_del]; done) | fail) (by rfl) (by first | assumption | (simp; done) | fail) (by rfl) (by simp) ?_; (try simp [hne, hk, hw, del, Nat.add_assoc]))
    | (refine CallP.pan1 (hc2 _ (by first | omega | (simp; done) | (simp; omega) | fail)) (by first | (simp [hne, hk, hw, del, Nat.add_assoc, getK_cons, getK, getK_append, getK_del]; done) | fail) (by rfl) (by first | assumption | (simp; done) | fail) (by rfl) (by simp) ?_; rintro ob' ⟨q', rfl⟩; refine ⟨_, Wk.refl _, ?_⟩)
    | fail)
    (refine hpan _ _ ⟨{ n := _, env := [], obs := [(i, pOb l q')], next := nx }, (Wk.cut rfl (by simp [hn]) (by simp [wkO, getK_cons, getK, getK_append, getK_del, Ob.under, D.under, under_rowsD, under_entD, hi, hne, getK_append, getK_del, getK_cons, getK]) (by simp [wkU, keepE, getK_cons, getK, D.under, hi, hne, getK_append, getK_del, getK_cons, getK]) (by simp [wkE, keepE, getK_cons, getK, hi, hne, getK_append, getK_del, getK_cons, getK])), by simp [hn], ?_⟩; try simp)
    exact PPost.at_stop rfl
theorem isB_text {l : List Tok} {p : Nat} {w : List UInt8} {t : Tok} (ht : l[p]? = some t) (h : isB l p w = true) : t.text = w := by
  unfold isB at h
  rw [ht] at h
  simp only [Bool.and_eq_true, decide_eq_true_eq] at h
  exact h.2
theorem primary_step {l : List Tok} (hl : TokOK l) {f : Nat} (hE : ExpOK l f) : PrimOK l (f + 1) := by
  intro p i nx hi hp hf
  obtain ⟨t, ht⟩ : ∃ t, l[p]? = some t := ⟨_, List.getElem?_eq_getElem hp⟩
  by_cases hk : t.kind = 2
  · exact primary_num hl ht hk hi
  cases h1 : isB l p [116, 114, 117, 101] with
  | true => exact primary_true hl ht hk h1 hi
  | false =>
  cases h2 : isB l p [102, 97, 108, 115, 101] with
  | true => exact primary_false hl ht hk h1 h2 hi
  | false =>
  cases h3 : isB l p [109, 105, 110] with
  | true =>
    cases h4 : isB l p [109, 97, 120] with
    | true => exact absurd ((isB_text ht h3).symm.trans (isB_text ht h4)) (by decide)
    | false => exact primary_min hl hE (by omega) ht hk h1 h2 h3 h4 hi
  | false =>
  cases h4 : isB l p [109, 97, 120] with
  | true => exact primary_max hl hE (by omega) ht hk h1 h2 h3 h4 hi
  | false =>
  cases h5 : isB l p [40] with
  | true => exact primary_paren hl hE (by omega) ht hk h1 h2 h3 h4 h5 hi
  | false => exact primary_name hl ht hk h1 h2 h3 h4 h5 hi

theorem prefix_if {l : List Tok} (hl : TokOK l) {f p : Nat} {form : Int} (hE : ExpOK l f) (hp : p < l.length) (hf : 4 * (l.length - p) + 1 ≤ f)
    (hf0 : form = 0) (h1 : isB l p [105, 102] = true) {i nx : Nat} (hi : i < nx) :
    RetX Tryd.prog 67 [.ptr i 0, intD form] [(i, pOb l p)] nx (PPost l i nx pairD (prefixP l (f + 1) p form)) := by
  have hne := ne_facts hi
  have hll := hl.len
  rw [prefixP]
  have hp2 := isB_lt hl h1
  subst hf0
  have hf0 : (0 : Int) = 0 := rfl
  have hf3 : (0 : Int) ≤ 3 := by omega
  have hh1 := fun nx' (h : nx ≤ nx') => has_ret l p [105, 102] i nx' (by omega) hp hl.len
  simp only [h1, if_true] at hh1
  rw [if_pos ⟨rfl, h1⟩]
  have ha := fun nx' (h : nx ≤ nx') => hE (p + 1) 0 i nx' (by omega) hp2 (by omega) (by omega) (by omega)
  cases hr0 : expP l f (p + 1) 0 with
  | stop pos e =>
    simp only [hr0] at ha
    (refine RetX.of_bodyW Tryd.func67 rfl (by simp) fun Γ hn hpan => ?_); simp only [entry, List.zipIdx_cons, List.zipIdx_nil, List.map_cons, List.map_nil, Nat.zero_add, Tryd.ntmps67]
    repeat' (first
    | (refine H_cons ?_; simp [hne, hf0, hf3, del, Nat.add_assoc])
    | (refine H_nil ?_; simp [hne, hf0, hf3, del, Nat.add_assoc])
    | (refine V_sseq ?_; simp [hne, hf0, hf3, del, Nat.add_assoc])
    | (refine V_scond ?_; simp [hne, hf0, hf3, del, Nat.add_assoc])
    | (refine CallP.ok1 (hh1 _ (by first | omega | (simp; done) | (simp; omega) | fail)) (by first | (simp [hne, hf0, hf3, del, Nat.add_assoc, getK_cons, getK, getK_append, getK_del]; done) | fail) (by rfl) (by first | assumption | (simp; done) | fail) (by rfl) (by simp) ?_; (try simp [hne, hf0, hf3, del, Nat.add_assoc]))
    | (refine CallP.pan1 (ha _ (by first | omega | (simp; done) | (simp; omega) | fail)) (by first | (simp [hne, hf0, hf3, del, Nat.add_assoc, getK_cons, getK, getK_append, getK_del]; done) | fail) (by rfl) (by first | assumption | (simp; done) | fail) (by rfl) (by simp) ?_; rintro ob' ⟨q', rfl⟩; refine ⟨_, Wk.refl _, ?_⟩)
    | fail)
    (refine hpan _ _ ⟨{ n := _, env := [], obs := [(i, pOb l q')], next := nx }, (Wk.cut rfl (by simp [hn]) (by simp [wkO, getK_cons, getK, getK_append, getK_del, Ob.under, D.under, under_rowsD, under_entD, hi, hne, getK_append, getK_del, getK_cons, getK]) (by simp [wkU, keepE, getK_cons, getK, D.under, hi, hne, getK_append, getK_del, getK_cons, getK]) (by simp [wkE, keepE, getK_cons, getK, hi, hne, getK_append, getK_del, getK_cons, getK])), by simp [hn], ?_⟩; try simp)
    exact PPost.at_stop (by simp [PR.bind, *])
  | ok v0 q0 =>
    have ha := fun nx' h => exp_ok (ha nx' h) hr0
    obtain ⟨g0a, g0b⟩ := (parse_le hl f).1 _ _ _ _ hr0 hp2
    have hw1 := fun nx' (h : nx ≤ nx') => want1 hl [116, 104, 101, 110] (q := q0) (i := i) (nx := nx') (by omega) g0b
    cases hr1 : wantP l q0 [[116, 104, 101, 110]] with
    | stop pos e =>
      simp only [hr1] at hw1
      (refine RetX.of_bodyW Tryd.func67 rfl (by simp) fun Γ hn hpan => ?_); simp only [entry, List.zipIdx_cons, List.zipIdx_nil, List.map_cons, List.map_nil, Nat.zero_add, Tryd.ntmps67]
      repeat' (first
    | (refine H_cons ?_; simp [hne, hf0, hf3, del, Nat.add_assoc])
    | (refine H_nil ?_; simp [hne, hf0, hf3, del, Nat.add_assoc])
    | (refine V_sseq ?_; simp [hne, hf0, hf3, del, Nat.add_assoc])
    | (refine V_scond ?_; simp [hne, hf0, hf3, del, Nat.add_assoc])
    | (refine CallP.ok1 (hh1 _ (by first | omega | (simp; done) | (simp; omega) | fail)) (by first | (simp [hne, hf0, hf3, del, Nat.add_assoc, getK_cons, getK, getK_append, getK_del]; done) | fail) (by rfl) (by first | assumption | (simp; done) | fail) (by rfl) (by simp) ?_; (try simp [hne, hf0, hf3, del, Nat.add_assoc]))
    | (refine CallP.ok1 (ha _ (by first | omega | (simp; done) | (simp; omega) | fail)) (by first | (simp [hne, hf0, hf3, del, Nat.add_assoc, getK_cons, getK, getK_append, getK_del]; done) | fail) (by rfl) (by first | assumption | (simp; done) | fail) (by rfl) (by simp) ?_; (try simp [hne, hf0, hf3, del, Nat.add_assoc]))
    | (refine CallP.pan1 (hw1 _ (by first | omega | (simp; done) | (simp; omega) | fail)) (by first | (simp [hne, hf0, hf3, del, Nat.add_assoc, getK_cons, getK, getK_append, getK_del]; done) | fail) (by rfl) (by first | assumption | (simp; done) | fail) (by rfl) (by simp) ?_; rintro ob' ⟨q', rfl⟩; refine ⟨_, Wk.refl _, ?_⟩)
    | (refine CallP_frzV (by first | rfl | fail) ?_; simp [hne, hf0, hf3, del, Nat.add_assoc, frzN, frz1, frz_env, frz_obs, St.frz, St.frzS, frzS, fv, fzVec, fzMap, fzBox, frzObS, frz_entD, frz_rowsD, del, frz, frzOb])
    | fail)
      (refine hpan _ _ ⟨{ n := _, env := [], obs := [(i, pOb l q')], next := nx }, (Wk.cut rfl (by simp [hn]) (by simp [wkO, getK_cons, getK, getK_append, getK_del, Ob.under, D.under, under_rowsD, under_entD, hi, hne, getK_append, getK_del, getK_cons, getK]) (by simp [wkU, keepE, getK_cons, getK, D.under, hi, hne, getK_append, getK_del, getK_cons, getK]) (by simp [wkE, keepE, getK_cons, getK, hi, hne, getK_append, getK_del, getK_cons, getK])), by simp [hn], ?_⟩; try simp)
      exact PPost.at_stop (by simp [PR.bind, *])
    | ok v1 q1 =>
      simp only [hr1] at hw1
      obtain ⟨g1a, g1b⟩ := wantP_le hl _ hr1 g0b
      have hb := fun nx' (h : nx ≤ nx') => hE q1 0 i nx' (by omega) g1b (by omega) (by omega) (by omega)
      cases hr2 : expP l f q1 0 with
      | stop pos e =>
        simp only [hr2] at hb
        (refine RetX.of_bodyW Tryd.func67 rfl (by simp) fun Γ hn hpan => ?_); simp only [entry, List.zipIdx_cons, List.zipIdx_nil, List.map_cons, List.map_nil, Nat.zero_add, Tryd.ntmps67]
        repeat' (first
    | (refine H_cons ?_; simp [hne, hf0, hf3, del, Nat.add_assoc])
    | (refine H_nil ?_; simp [hne, hf0, hf3, del, Nat.add_assoc])
    | (refine V_sseq ?_; simp [hne, hf0, hf3, del, Nat.add_assoc])
    | (refine V_scond ?_; simp [hne, hf0, hf3, del, Nat.add_assoc])
    | (refine CallP.ok1 (hh1 _ (by first | omega | (simp; done) | (simp; omega) | fail)) (by first | (simp [hne, hf0, hf3, del, Nat.add_assoc, getK_cons, getK, getK_append, getK_del]; done) | fail) (by rfl) (by first | assumption | (simp; done) | fail) (by rfl) (by simp) ?_; (try simp [hne, hf0, hf3, del, Nat.add_assoc]))
    | (refine CallP.ok1 (ha _ (by first | omega | (simp; done) | (simp; omega) | fail)) (by first | (simp [hne, hf0, hf3, del, Nat.add_assoc, getK_cons, getK, getK_append, getK_del]; done) | fail) (by rfl) (by first | assumption | (simp; done) | fail) (by rfl) (by simp) ?_; (try simp [hne, hf0, hf3, del, Nat.add_assoc]))
    | (refine CallP.ok1 (hw1 _ (by first | omega | (simp; done) | (simp; omega) | fail)) (by first | (simp [hne, hf0, hf3, del, Nat.add_assoc, getK_cons, getK, getK_append, getK_del]; done) | fail) (by rfl) (by first | assumption | (simp; done) | fail) (by rfl) (by simp) ?_; (try simp [hne, hf0, hf3, del, Nat.add_assoc]))
    | (refine CallP.pan1 (hb _ (by first | omega | (simp; done) | (simp; omega) | fail)) (by first | (simp [hne, hf0, hf3, del, Nat.add_assoc, getK_cons, getK, getK_append, getK_del]; done) | fail) (by rfl) (by first | assumption | (simp; done) | fail) (by rfl) (by simp) ?_; rintro ob' ⟨q', rfl⟩; refine ⟨_, Wk.refl _, ?_⟩)
    | (refine CallP_frzV (by first | rfl | fail) ?_; simp [hne, hf0, hf3, del, Nat.add_assoc, frzN, frz1, frz_env, frz_obs, St.frz, St.frzS, frzS, fv, fzVec, fzMap, fzBox, frzObS, frz_entD, frz_rowsD, del, frz, frzOb])
    | fail)
        (refine hpan _ _ ⟨{ n := _, env := [], obs := [(i, pOb l q')], next := nx }, (Wk.cut rfl (by simp [hn]) (by simp [wkO, getK_cons, getK, getK_append, getK_del, Ob.under, D.under, under_rowsD, under_entD, hi, hne, getK_append, getK_del, getK_cons, getK]) (by simp [wkU, keepE, getK_cons, getK, D.under, hi, hne, getK_append, getK_del, getK_cons, getK]) (by simp [wkE, keepE, getK_cons, getK, hi, hne, getK_append, getK_del, getK_cons, getK])), by simp [hn], ?_⟩; try simp)
        exact PPost.at_stop (by simp [PR.bind, *])
      | ok v2 q2 =>
        have hb := fun nx' h => exp_ok (hb nx' h) hr2
        obtain ⟨g2a, g2b⟩ := (parse_le hl f).1 _ _ _ _ hr2 g1b
        have hw2 := fun nx' (h : nx ≤ nx') => want1 hl [101, 108, 115, 101] (q := q2) (i := i) (nx := nx') (by omega) g2b
        cases hr3 : wantP l q2 [[101, 108, 115, 101]] with
        | stop pos e =>
          simp only [hr3] at hw2
          (refine RetX.of_bodyW Tryd.func67 rfl (by simp) fun Γ hn hpan => ?_); simp only [entry, List.zipIdx_cons, List.zipIdx_nil, List.map_cons, List.map_nil, Nat.zero_add, Tryd.ntmps67]
          repeat' (first
    | (refine H_cons ?_; simp [hne, hf0, hf3, del, Nat.add_assoc])
    | (refine H_nil ?_; simp [hne, hf0, hf3, del, Nat.add_assoc])
    | (refine V_sseq ?_; simp [hne, hf0, hf3, del, Nat.add_assoc])
    | (refine V_scond ?_; simp [hne, hf0, hf3, del, Nat.add_assoc])
    | (refine CallP.ok1 (hh1 _ (by first | omega | (simp; done) | (simp; omega) | fail)) (by first | (simp [hne, hf0, hf3, del, Nat.add_assoc, getK_cons, getK, getK_append, getK_del]; done) | fail) (by rfl) (by first | assumption | (simp; done) | fail) (by rfl) (by simp) ?_; (try simp [hne, hf0, hf3, del, Nat.add_assoc]))
    | (refine CallP.ok1 (ha _ (by first | omega | (simp; done) | (simp; omega) | fail)) (by first | (simp [hne, hf0, hf3, del, Nat.add_assoc, getK_cons, getK, getK_append, getK_del]; done) | fail) (by rfl) (by first | assumption | (simp; done) | fail) (by rfl) (by simp) ?_; (try simp [hne, hf0, hf3, del, Nat.add_assoc]))
    | (refine CallP.ok1 (hw1 _ (by first | omega | (simp; done) | (simp; omega) | fail)) (by first | (simp [hne, hf0, hf3, del, Nat.add_assoc, getK_cons, getK, getK_append, getK_del]; done) | fail) (by rfl) (by first | assumption | (simp; done) | fail) (by rfl) (by simp) ?_; (try simp [hne, hf0, hf3, del, Nat.add_assoc]))
    | (refine CallP.ok1 (hb _ (by first | omega | (simp; done) | (simp; omega) | fail)) (by first | (simp [hne, hf0, hf3, del, Nat.add_assoc, getK_cons, getK, getK_append, getK_del]; done) | fail) (by rfl) (by first | assumption | (simp; done) | fail) (by rfl) (by simp) ?_; (try simp [hne, hf0, hf3, del, Nat.add_assoc]))
    | (refine CallP.pan1 (hw2 _ (by first | omega | (simp; done) | (simp; omega) | fail)) (by first | (simp [hne, hf0, hf3, del, Nat.add_assoc, getK_cons, getK, getK_append, getK_del]; done) | fail) (by rfl) (by first | assumption | (simp; done) | fail) (by rfl) (by simp) ?_; rintro ob' ⟨q', rfl⟩; refine ⟨_, Wk.refl _, ?_⟩)
    | (refine CallP_frzV (by first | rfl | fail) ?_; simp [hne, hf0, hf3, del, Nat.add_assoc, frzN, frz1, frz_env, frz_obs, St.frz, St.frzS, frzS, fv, fzVec, fzMap, fzBox, frzObS, frz_entD, frz_rowsD, del, frz, frzOb])
    | fail)
          (refine hpan _ _ ⟨{ n := _, env := [], obs := [(i, pOb l q')], next := nx }, (Wk.cut rfl (by simp [hn]) (by simp [wkO, getK_cons, getK, getK_append, getK_del, Ob.under, D.under, under_rowsD, under_entD, hi, hne, getK_append, getK_del, getK_cons, getK]) (by simp [wkU, keepE, getK_cons, getK, D.under, hi, hne, getK_append, getK_del, getK_cons, getK]) (by simp [wkE, keepE, getK_cons, getK, hi, hne, getK_append, getK_del, getK_cons, getK])), by simp [hn], ?_⟩; try simp)
          exact PPost.at_stop (by simp [PR.bind, *])
        | ok v3 q3 =>
          simp only [hr3] at hw2
          obtain ⟨g3a, g3b⟩ := wantP_le hl _ hr3 g2b
          have hc := fun nx' (h : nx ≤ nx') => hE q3 0 i nx' (by omega) g3b (by omega) (by omega) (by omega)
          cases hr4 : expP l f q3 0 with
          | stop pos e =>
            simp only [hr4] at hc
            (refine RetX.of_bodyW Tryd.func67 rfl (by simp) fun Γ hn hpan => ?_); simp only [entry, List.zipIdx_cons, List.zipIdx_nil, List.map_cons, List.map_nil, Nat.zero_add, Tryd.ntmps67]
            repeat' (first
    | (refine HD4_pan1 (fun nx' h' => hc nx' (by simp at h'; omega)) (by first | (simp [hne, hf0, hf3, del, Nat.add_assoc, getK_cons, getK, getK_append, getK_del, getK_setOb, applyW]; done) | fail) (by rfl) (by first | assumption | simp) (by rfl) (by simp) ?_ ?_; rintro env' ob' n' hn' ⟨q', rfl⟩; refine ⟨_, Wk.refl _, ?_⟩)
    | (refine HD4_skipS rfl (by simp) ?_; simp)
    | (refine H_cons ?_; simp [hne, hf0, hf3, del, Nat.add_assoc])
    | (refine HD4_val rfl ?_; simp [hne, hf0, hf3, del, Nat.add_assoc])
    | (refine H_nil ?_; simp [hne, hf0, hf3, del, Nat.add_assoc])
    | (refine V_sseq ?_; simp [hne, hf0, hf3, del, Nat.add_assoc])
    | (refine V_scond ?_; simp [hne, hf0, hf3, del, Nat.add_assoc])
    | (refine HD4_nilS (hC _ (okP4_ren [i] nx (by simp <;> omega) (by simp <;> omega) (by apply Exists.intro; apply And.intro; (focus (repeat' (first | exact KF.nil | exact KL.nil | apply KF.cons | apply KL.cons 0 rfl | apply KL.cons 1 rfl | apply KL.cons 2 rfl | apply KL.cons 3 rfl | apply KL.cons 4 rfl | apply KL.cons 5 rfl | apply KL.cons 6 rfl | apply KL.cons 7 rfl | apply KL.cons 8 rfl | apply KL.cons 9 rfl))); kernel_rfl))) rfl; done)
    | (refine V_drawX rfl (by kernel_rfl) (by first | (simp [hn]; done) | (simp [hn]; omega) | fail) fun C k hC hk => ?_; simp [hne, hf0, hf3, del, Nat.add_assoc])
    | (refine CallP.ok1 (hh1 _ (by first | omega | (simp; done) | (simp; omega) | fail)) (by first | (simp [hne, hf0, hf3, del, Nat.add_assoc, getK_cons, getK, getK_append, getK_del]; done) | fail) (by rfl) (by first | assumption | (simp; done) | fail) (by rfl) (by simp) ?_; (try simp [hne, hf0, hf3, del, Nat.add_assoc]))
    | (refine CallP.ok1 (ha _ (by first | omega | (simp; done) | (simp; omega) | fail)) (by first | (simp [hne, hf0, hf3, del, Nat.add_assoc, getK_cons, getK, getK_append, getK_del]; done) | fail) (by rfl) (by first | assumption | (simp; done) | fail) (by rfl) (by simp) ?_; (try simp [hne, hf0, hf3, del, Nat.add_assoc]))
    | (refine CallP.ok1 (hw1 _ (by first | omega | (simp; done) | (simp; omega) | fail)) (by first | (simp [hne, hf0, hf3, del, Nat.add_assoc, getK_cons, getK, getK_append, getK_del]; done) | fail) (by rfl) (by first | assumption | (simp; done) | fail) (by rfl) (by simp) ?_; (try simp [hne, hf0, hf3, del, Nat.add_assoc]))
    | (refine CallP.ok1 (hb _ (by first | omega | (simp; done) | (simp; omega) | fail)) (by first | (simp [hne, hf0, hf3, del, Nat.add_assoc, getK_cons, getK, getK_append, getK_del]; done) | fail) (by rfl) (by first | assumption | (simp; done) | fail) (by rfl) (by simp) ?_; (try simp [hne, hf0, hf3, del, Nat.add_assoc]))
    | (refine CallP.ok1 (hw2 _ (by first | omega | (simp; done) | (simp; omega) | fail)) (by first | (simp [hne, hf0, hf3, del, Nat.add_assoc, getK_cons, getK, getK_append, getK_del]; done) | fail) (by rfl) (by first | assumption | (simp; done) | fail) (by rfl) (by simp) ?_; (try simp [hne, hf0, hf3, del, Nat.add_assoc]))
    | (refine CallP_frzV (by first | rfl | fail) ?_; simp [hne, hf0, hf3, del, Nat.add_assoc, frzN, frz1, frz_env, frz_obs, St.frz, St.frzS, frzS, fv, fzVec, fzMap, fzBox, frzObS, frz_entD, frz_rowsD, del, frz, frzOb])
    | fail)
            (refine hpan _ _ ⟨{ n := _, env := [], obs := [(i, pOb l q')], next := nx }, (Wk.cut rfl (by simp [hn]) (by simp [wkO, getK_cons, getK, getK_append, getK_del, Ob.under, D.under, under_rowsD, under_entD, hi, hne, getK_append, getK_del, getK_cons, getK]) (by simp [wkU, keepE, getK_cons, getK, D.under, hi, hne, getK_append, getK_del, getK_cons, getK]) (by simp [wkE, keepE, getK_cons, getK, hi, hne, getK_append, getK_del, getK_cons, getK])), by simp [hn], ?_⟩; try simp)
            exact PPost.at_stop (by simp [PR.bind, *])
          | ok v4 q4 =>
            have hc := fun nx' h => exp_ok (hc nx' h) hr4
            obtain ⟨g4a, g4b⟩ := (parse_le hl f).1 _ _ _ _ hr4 g3b
            (refine RetX.of_bodyW Tryd.func67 rfl (by simp) fun Γ hn hpan => ?_); simp only [entry, List.zipIdx_cons, List.zipIdx_nil, List.map_cons, List.map_nil, Nat.zero_add, Tryd.ntmps67]
            repeat' (first
    | (refine HD4_ok1 (fun nx' h' => hc nx' (by simp at h'; omega)) (by first | (simp [hne, hf0, hf3, del, Nat.add_assoc, getK_cons, getK, getK_append, getK_del, getK_setOb, applyW]; done) | fail) (by rfl) (by first | assumption | simp) (by rfl) (by simp [D.under, Ob.under]) (by simp) ?_; (try simp [hne, hf0, hf3, del, Nat.add_assoc]))
    | (refine H_cons ?_; simp [hne, hf0, hf3, del, Nat.add_assoc])
    | (refine HD4_val rfl ?_; simp [hne, hf0, hf3, del, Nat.add_assoc])
    | (refine HD4_chg rfl ?_; simp [hne, hf0, hf3, del, Nat.add_assoc])
    | (refine H_nil ?_; simp [hne, hf0, hf3, del, Nat.add_assoc])
    | (refine V_sseq ?_; simp [hne, hf0, hf3, del, Nat.add_assoc])
    | (refine V_scond ?_; simp [hne, hf0, hf3, del, Nat.add_assoc])
    | (refine HD4_nil (hC _ (okP4_ren [i] nx (by simp <;> omega) (by simp <;> omega) (by apply Exists.intro; apply And.intro; (focus (repeat' (first | exact KF.nil | exact KL.nil | apply KF.cons | apply KL.cons 0 rfl | apply KL.cons 1 rfl | apply KL.cons 2 rfl | apply KL.cons 3 rfl | apply KL.cons 4 rfl | apply KL.cons 5 rfl | apply KL.cons 6 rfl | apply KL.cons 7 rfl | apply KL.cons 8 rfl | apply KL.cons 9 rfl))); kernel_rfl))) (hk _ ?_); clear hC hk C k; simp only [RunK])
    | (refine V_drawX rfl (by kernel_rfl) (by first | (simp [hn]; done) | (simp [hn]; omega) | fail) fun C k hC hk => ?_; simp [hne, hf0, hf3, del, Nat.add_assoc])
    | (refine V_ret ?_; simp only [RunK])
    | (refine CallP.ok1 (hh1 _ (by first | omega | (simp; done) | (simp; omega) | fail)) (by first | (simp [hne, hf0, hf3, del, Nat.add_assoc, getK_cons, getK, getK_append, getK_del]; done) | fail) (by rfl) (by first | assumption | (simp; done) | fail) (by rfl) (by simp) ?_; (try simp [hne, hf0, hf3, del, Nat.add_assoc]))
    | (refine CallP.ok1 (ha _ (by first | omega | (simp; done) | (simp; omega) | fail)) (by first | (simp [hne, hf0, hf3, del, Nat.add_assoc, getK_cons, getK, getK_append, getK_del]; done) | fail) (by rfl) (by first | assumption | (simp; done) | fail) (by rfl) (by simp) ?_; (try simp [hne, hf0, hf3, del, Nat.add_assoc]))
    | (refine CallP.ok1 (hw1 _ (by first | omega | (simp; done) | (simp; omega) | fail)) (by first | (simp [hne, hf0, hf3, del, Nat.add_assoc, getK_cons, getK, getK_append, getK_del]; done) | fail) (by rfl) (by first | assumption | (simp; done) | fail) (by rfl) (by simp) ?_; (try simp [hne, hf0, hf3, del, Nat.add_assoc]))
    | (refine CallP.ok1 (hb _ (by first | omega | (simp; done) | (simp; omega) | fail)) (by first | (simp [hne, hf0, hf3, del, Nat.add_assoc, getK_cons, getK, getK_append, getK_del]; done) | fail) (by rfl) (by first | assumption | (simp; done) | fail) (by rfl) (by simp) ?_; (try simp [hne, hf0, hf3, del, Nat.add_assoc]))
    | (refine CallP.ok1 (hw2 _ (by first | omega | (simp; done) | (simp; omega) | fail)) (by first | (simp [hne, hf0, hf3, del, Nat.add_assoc, getK_cons, getK, getK_append, getK_del]; done) | fail) (by rfl) (by first | assumption | (simp; done) | fail) (by rfl) (by simp) ?_; (try simp [hne, hf0, hf3, del, Nat.add_assoc]))
    | (refine CallP_frzV (by first | rfl | fail) ?_; simp [hne, hf0, hf3, del, Nat.add_assoc, frzN, frz1, frz_env, frz_obs, St.frz, St.frzS, frzS, fv, fzVec, fzMap, fzBox, frzObS, frz_entD, frz_rowsD, del, frz, frzOb])
    | fail)
            (refine EndW.frzN 1 ?_; simp [frzN, frz1, frz_env, frz_obs, St.frz, St.frzS, frzS, fv, fzVec, fzMap, fzBox, frzObS, frz_entD, frz_rowsD, del, frz, frzOb, hne, Nat.add_assoc])
            refine EndW.norm ?_
            simp [St.norm, normOb, normD, normU, norm1, hne, Nat.add_assoc]
            (refine EndW.here ?_; (first | (refine EndOK.fin (.inr rfl) ?_) | (refine EndOK.fin (.inl rfl) ?_)); simp [resD, oneOrTup, Tryd.results67, hne, hi]; refine FinOK.cut [(i, pOb l q4)] (nx) (by simp [getK_cons, getK, getK_append, getK_del, Ob.under, D.under, under_rowsD, under_entD, hne, hi] <;> omega) (by simp [D.under]) (by simp [hn]) ?_; try simp)
            exact PPost.at_ok (by simp [PR.bind, *]; rfl) (by simp [Exp.row_eq, Exp.op, Exp.n, Exp.unit, Exp.s, Exp.args]) rfl
theorem prefix_not0 {l : List Tok} (hl : TokOK l) {f p : Nat} {form : Int} (hE : ExpOK l f) (hp : p < l.length) (hf : 4 * (l.length - p) + 1 ≤ f)
    (hf0 : form = 0) (hf3 : form ≤ 3) (h1 : isB l p [105, 102] = false) (h2 : isB l p [110, 111, 116] = true) {i nx : Nat} (hi : i < nx) :
    RetX Tryd.prog 67 [.ptr i 0, intD form] [(i, pOb l p)] nx (PPost l i nx pairD (prefixP l (f + 1) p form)) := by
  have hne := ne_facts hi
  have hll := hl.len
  rw [prefixP]
  have hh1 := fun nx' (h : nx ≤ nx') => has_ret l p [105, 102] i nx' (by omega) hp hl.len
  rw [h1] at hh1
  simp only [if_true, Bool.false_eq_true, if_false] at hh1
  have hp2 := isB_lt hl h2
  have hh2 := fun nx' (h : nx ≤ nx') => has_ret l p [110, 111, 116] i nx' (by omega) hp hl.len
  rw [h2] at hh2
  simp only [if_true, Bool.false_eq_true, if_false] at hh2
  rw [if_neg (by simp [*]), if_pos ⟨hf3, h2⟩]
  have ha := fun nx' (h : nx ≤ nx') => hE (p + 1) 3 i nx' (by omega) hp2 (by omega) (by omega) (by omega)
  cases hr0 : expP l f (p + 1) 3 with
  | stop pos e =>
    simp only [hr0] at ha
    (refine RetX.of_bodyW Tryd.func67 rfl (by simp) fun Γ hn hpan => ?_); simp only [entry, List.zipIdx_cons, List.zipIdx_nil, List.map_cons, List.map_nil, Nat.zero_add, Tryd.ntmps67]
    repeat' (first
    | (refine H_cons ?_; simp [hne, hf0, hf3, del, Nat.add_assoc])
    | (refine H_nil ?_; simp [hne, hf0, hf3, del, Nat.add_assoc])
    | (refine V_sseq ?_; simp [hne, hf0, hf3, del, Nat.add_assoc])
    | (refine V_scond ?_; simp [hne, hf0, hf3, del, Nat.add_assoc])
    | (refine V_skip ?_; simp only [RunK])
    | (refine CallP.ok1 (hh1 _ (by first | omega | (simp; done) | (simp; omega) | fail)) (by first | (simp [hne, hf0, hf3, del, Nat.add_assoc, getK_cons, getK, getK_append, getK_del]; done) | fail) (by rfl) (by first | assumption | (simp; done) | fail) (by rfl) (by simp) ?_; (try simp [hne, hf0, hf3, del, Nat.add_assoc]))
    | (refine CallP.ok1 (hh2 _ (by first | omega | (simp; done) | (simp; omega) | fail)) (by first | (simp [hne, hf0, hf3, del, Nat.add_assoc, getK_cons, getK, getK_append, getK_del]; done) | fail) (by rfl) (by first | assumption | (simp; done) | fail) (by rfl) (by simp) ?_; (try simp [hne, hf0, hf3, del, Nat.add_assoc]))
    | (refine CallP.pan1 (ha _ (by first | omega | (simp; done) | (simp; omega) | fail)) (by first | (simp [hne, hf0, hf3, del, Nat.add_assoc, getK_cons, getK, getK_append, getK_del]; done) | fail) (by rfl) (by first | assumption | (simp; done) | fail) (by rfl) (by simp) ?_; rintro ob' ⟨q', rfl⟩; refine ⟨_, Wk.refl _, ?_⟩)
    | fail)
    (refine hpan _ _ ⟨{ n := _, env := [], obs := [(i, pOb l q')], next := nx }, (Wk.cut rfl (by simp [hn]) (by simp [wkO, getK_cons, getK, getK_append, getK_del, Ob.under, D.under, under_rowsD, under_entD, hi, hne, getK_append, getK_del, getK_cons, getK]) (by simp [wkU, keepE, getK_cons, getK, D.under, hi, hne, getK_append, getK_del, getK_cons, getK]) (by simp [wkE, keepE, getK_cons, getK, hi, hne, getK_append, getK_del, getK_cons, getK])), by simp [hn], ?_⟩; try simp)
    exact PPost.at_stop (by simp [PR.bind, *])
  | ok v0 q0 =>
    have ha := fun nx' h => exp_ok (ha nx' h) hr0
    (refine RetX.of_bodyW Tryd.func67 rfl (by simp) fun Γ hn hpan => ?_); simp only [entry, List.zipIdx_cons, List.zipIdx_nil, List.map_cons, List.map_nil, Nat.zero_add, Tryd.ntmps67]
    repeat' (first
    | (refine H_cons ?_; simp [hne, hf0, hf3, del, Nat.add_assoc])
    | (refine H_nil ?_; simp [hne, hf0, hf3, del, Nat.add_assoc])
    | (refine V_sseq ?_; simp [hne, hf0, hf3, del, Nat.add_assoc])
    | (refine V_scond ?_; simp [hne, hf0, hf3, del, Nat.add_assoc])
    | (refine V_ret ?_; simp only [RunK])
    | (refine V_skip ?_; simp only [RunK])
    | (refine CallP.ok1 (hh1 _ (by first | omega | (simp; done) | (simp; omega) | fail)) (by first | (simp [hne, hf0, hf3, del, Nat.add_assoc, getK_cons, getK, getK_append, getK_del]; done) | fail) (by rfl) (by first | assumption | (simp; done) | fail) (by rfl) (by simp) ?_; (try simp [hne, hf0, hf3, del, Nat.add_assoc]))
    | (refine CallP.ok1 (hh2 _ (by first | omega | (simp; done) | (simp; omega) | fail)) (by first | (simp [hne, hf0, hf3, del, Nat.add_assoc, getK_cons, getK, getK_append, getK_del]; done) | fail) (by rfl) (by first | assumption | (simp; done) | fail) (by rfl) (by simp) ?_; (try simp [hne, hf0, hf3, del, Nat.add_assoc]))
    | (refine CallP.ok1 (ha _ (by first | omega | (simp; done) | (simp; omega) | fail)) (by first | (simp [hne, hf0, hf3, del, Nat.add_assoc, getK_cons, getK, getK_append, getK_del]; done) | fail) (by rfl) (by first | assumption | (simp; done) | fail) (by rfl) (by simp) ?_; (try simp [hne, hf0, hf3, del, Nat.add_assoc]))
    | fail)
    (refine EndW.frzN 1 ?_; simp [frzN, frz1, frz_env, frz_obs, St.frz, St.frzS, frzS, fv, fzVec, fzMap, fzBox, frzObS, frz_entD, frz_rowsD, del, frz, frzOb, hne, Nat.add_assoc])
    refine EndW.norm ?_
    simp [St.norm, normOb, normD, normU, norm1, hne, Nat.add_assoc]
    (refine EndW.here ?_; (first | (refine EndOK.fin (.inr rfl) ?_) | (refine EndOK.fin (.inl rfl) ?_)); simp [resD, oneOrTup, Tryd.results67, hne, hi]; refine FinOK.cut [(i, pOb l q0)] (nx) (by simp [getK_cons, getK, getK_append, getK_del, Ob.under, D.under, under_rowsD, under_entD, hne, hi] <;> omega) (by simp [D.under]) (by simp [hn]) ?_; try simp)
    exact PPost.at_ok (by simp [PR.bind, *]; rfl) (by simp [Exp.row_eq, Exp.op, Exp.n, Exp.unit, Exp.s, Exp.args]) rfl
theorem prefix_not1 {l : List Tok} (hl : TokOK l) {f p : Nat} {form : Int} (hE : ExpOK l f) (hp : p < l.length) (hf : 4 * (l.length - p) + 1 ≤ f)
    (hf0 : ¬ form = 0) (hf3 : form ≤ 3) (h2 : isB l p [110, 111, 116] = true) {i nx : Nat} (hi : i < nx) :
    RetX Tryd.prog 67 [.ptr i 0, intD form] [(i, pOb l p)] nx (PPost l i nx pairD (prefixP l (f + 1) p form)) := by
  have hne := ne_facts hi
  have hll := hl.len
  rw [prefixP]
  have hp2 := isB_lt hl h2
  have hh2 := fun nx' (h : nx ≤ nx') => has_ret l p [110, 111, 116] i nx' (by omega) hp hl.len
  rw [h2] at hh2
  simp only [if_true, Bool.false_eq_true, if_false] at hh2
  rw [if_neg (by simp [*]), if_pos ⟨hf3, h2⟩]
  have ha := fun nx' (h : nx ≤ nx') => hE (p + 1) 3 i nx' (by omega) hp2 (by omega) (by omega) (by omega)
  cases hr0 : expP l f (p + 1) 3 with
  | stop pos e =>
    simp only [hr0] at ha
    (refine RetX.of_bodyW Tryd.func67 rfl (by simp) fun Γ hn hpan => ?_); simp only [entry, List.zipIdx_cons, List.zipIdx_nil, List.map_cons, List.map_nil, Nat.zero_add, Tryd.ntmps67]
    repeat' (first
    | (refine H_cons ?_; simp [hne, hf0, hf3, del, Nat.add_assoc])
    | (refine H_nil ?_; simp [hne, hf0, hf3, del, Nat.add_assoc])
    | (refine V_sseq ?_; simp [hne, hf0, hf3, del, Nat.add_assoc])
    | (refine V_scond ?_; simp [hne, hf0, hf3, del, Nat.add_assoc])
    | (refine V_skip ?_; simp only [RunK])
    | (refine CallP.ok1 (hh2 _ (by first | omega | (simp; done) | (simp; omega) | fail)) (by first | (simp [hne, hf0, hf3, del, Nat.add_assoc, getK_cons, getK, getK_append, getK_del]; done) | fail) (by rfl) (by first | assumption | (simp; done) | fail) (by rfl) (by simp) ?_; (try simp [hne, hf0, hf3, del, Nat.add_assoc]))
    | (refine CallP.pan1 (ha _ (by first | omega | (simp; done) | (simp; omega) | fail)) (by first | (simp [hne, hf0, hf3, del, Nat.add_assoc, getK_cons, getK, getK_append, getK_del]; done) | fail) (by rfl) (by first | assumption | (simp; done) | fail) (by rfl) (by simp) ?_; rintro ob' ⟨q', rfl⟩; refine ⟨_, Wk.refl _, ?_⟩)
    | fail)
    (refine hpan _ _ ⟨{ n := _, env := [], obs := [(i, pOb l q')], next := nx }, (Wk.cut rfl (by simp [hn]) (by simp [wkO, getK_cons, getK, getK_append, getK_del, Ob.under, D.under, under_rowsD, under_entD, hi, hne, getK_append, getK_del, getK_cons, getK]) (by simp [wkU, keepE, getK_cons, getK, D.under, hi, hne, getK_append, getK_del, getK_cons, getK]) (by simp [wkE, keepE, getK_cons, getK, hi, hne, getK_append, getK_del, getK_cons, getK])), by simp [hn], ?_⟩; try simp)
    exact PPost.at_stop (by simp [PR.bind, *])
  | ok v0 q0 =>
    have ha := fun nx' h => exp_ok (ha nx' h) hr0
    (refine RetX.of_bodyW Tryd.func67 rfl (by simp) fun Γ hn hpan => ?_); simp only [entry, List.zipIdx_cons, List.zipIdx_nil, List.map_cons, List.map_nil, Nat.zero_add, Tryd.ntmps67]
    repeat' (first
    | (refine H_cons ?_; simp [hne, hf0, hf3, del, Nat.add_assoc])
    | (refine H_nil ?_; simp [hne, hf0, hf3, del, Nat.add_assoc])
    | (refine V_sseq ?_; simp [hne, hf0, hf3, del, Nat.add_assoc])
    | (refine V_scond ?_; simp [hne, hf0, hf3, del, Nat.add_assoc])
    | (refine V_ret ?_; simp only [RunK])
    | (refine V_skip ?_; simp only [RunK])
    | (refine CallP.ok1 (hh2 _ (by first | omega | (simp; done) | (simp; omega) | fail)) (by first | (simp [hne, hf0, hf3, del, Nat.add_assoc, getK_cons, getK, getK_append, getK_del]; done) | fail) (by rfl) (by first | assumption | (simp; done) | fail) (by rfl) (by simp) ?_; (try simp [hne, hf0, hf3, del, Nat.add_assoc]))
    | (refine CallP.ok1 (ha _ (by first | omega | (simp; done) | (simp; omega) | fail)) (by first | (simp [hne, hf0, hf3, del, Nat.add_assoc, getK_cons, getK, getK_append, getK_del]; done) | fail) (by rfl) (by first | assumption | (simp; done) | fail) (by rfl) (by simp) ?_; (try simp [hne, hf0, hf3, del, Nat.add_assoc]))
    | fail)
    (refine EndW.frzN 1 ?_; simp [frzN, frz1, frz_env, frz_obs, St.frz, St.frzS, frzS, fv, fzVec, fzMap, fzBox, frzObS, frz_entD, frz_rowsD, del, frz, frzOb, hne, Nat.add_assoc])
    refine EndW.norm ?_
    simp [St.norm, normOb, normD, normU, norm1, hne, Nat.add_assoc]
    (refine EndW.here ?_; (first | (refine EndOK.fin (.inr rfl) ?_) | (refine EndOK.fin (.inl rfl) ?_)); simp [resD, oneOrTup, Tryd.results67, hne, hi]; refine FinOK.cut [(i, pOb l q0)] (nx) (by simp [getK_cons, getK, getK_append, getK_del, Ob.under, D.under, under_rowsD, under_entD, hne, hi] <;> omega) (by simp [D.under]) (by simp [hn]) ?_; try simp)
    exact PPost.at_ok (by simp [PR.bind, *]; rfl) (by simp [Exp.row_eq, Exp.op, Exp.n, Exp.unit, Exp.s, Exp.args]) rfl
theorem prefix_prim0 {l : List Tok} (hl : TokOK l) {f p : Nat} {form : Int} (hP : PrimOK l f) (hp : p < l.length) (hf : 4 * (l.length - p) + 1 ≤ f)
    (hf0 : form = 0) (hf3 : form ≤ 3) (h1 : isB l p [105, 102] = false) (h2 : isB l p [110, 111, 116] = false) {i nx : Nat} (hi : i < nx) :
    RetX Tryd.prog 67 [.ptr i 0, intD form] [(i, pOb l p)] nx (PPost l i nx pairD (prefixP l (f + 1) p form)) := by
  have hne := ne_facts hi
  have hll := hl.len
  rw [prefixP]
  have hh1 := fun nx' (h : nx ≤ nx') => has_ret l p [105, 102] i nx' (by omega) hp hl.len
  rw [h1] at hh1
  simp only [if_true, Bool.false_eq_true, if_false] at hh1
  have hh2 := fun nx' (h : nx ≤ nx') => has_ret l p [110, 111, 116] i nx' (by omega) hp hl.len
  rw [h2] at hh2
  simp only [if_true, Bool.false_eq_true, if_false] at hh2
  rw [if_neg (by simp [*]), if_neg (by simp [*])]
  have ha := fun nx' (h : nx ≤ nx') => hP p i nx' (by omega) hp (by omega)
  cases hr0 : primaryP l f p with
  | stop pos e =>
    simp only [hr0] at ha
    (refine RetX.of_bodyW Tryd.func67 rfl (by simp) fun Γ hn hpan => ?_); simp only [entry, List.zipIdx_cons, List.zipIdx_nil, List.map_cons, List.map_nil, Nat.zero_add, Tryd.ntmps67]
    repeat' (first
    | (refine H_cons ?_; simp [hne, hf0, hf3, del, Nat.add_assoc])
    | (refine H_nil ?_; simp [hne, hf0, hf3, del, Nat.add_assoc])
    | (refine V_sseq ?_; simp [hne, hf0, hf3, del, Nat.add_assoc])
    | (refine V_scond ?_; simp [hne, hf0, hf3, del, Nat.add_assoc])
    | (refine V_skip ?_; simp only [RunK])
    | (refine CallP.ok1 (hh1 _ (by first | omega | (simp; done) | (simp; omega) | fail)) (by first | (simp [hne, hf0, hf3, del, Nat.add_assoc, getK_cons, getK, getK_append, getK_del]; done) | fail) (by rfl) (by first | assumption | (simp; done) | fail) (by rfl) (by simp) ?_; (try simp [hne, hf0, hf3, del, Nat.add_assoc]))
    | (refine CallP.ok1 (hh2 _ (by first | omega | (simp; done) | (simp; omega) | fail)) (by first | (simp [hne, hf0, hf3, del, Nat.add_assoc, getK_cons, getK, getK_append, getK_del]; done) | fail) (by rfl) (by first | assumption | (simp; done) | fail) (by rfl) (by simp) ?_; (try simp [hne, hf0, hf3, del, Nat.add_assoc]))
    | (refine CallP.pan1 (ha _ (by first | omega | (simp; done) | (simp; omega) | fail)) (by first | (simp [hne, hf0, hf3, del, Nat.add_assoc, getK_cons, getK, getK_append, getK_del]; done) | fail) (by rfl) (by first | assumption | (simp; done) | fail) (by rfl) (by simp) ?_; rintro ob' ⟨q', rfl⟩; refine ⟨_, Wk.refl _, ?_⟩)
    | fail)
    (refine hpan _ _ ⟨{ n := _, env := [], obs := [(i, pOb l q')], next := nx }, (Wk.cut rfl (by simp [hn]) (by simp [wkO, getK_cons, getK, getK_append, getK_del, Ob.under, D.under, under_rowsD, under_entD, hi, hne, getK_append, getK_del, getK_cons, getK]) (by simp [wkU, keepE, getK_cons, getK, D.under, hi, hne, getK_append, getK_del, getK_cons, getK]) (by simp [wkE, keepE, getK_cons, getK, hi, hne, getK_append, getK_del, getK_cons, getK])), by simp [hn], ?_⟩; try simp)
    exact PPost.at_stop (by simp [PR.bind, *])
  | ok v0 q0 =>
    have ha := fun nx' h => exp_ok (ha nx' h) hr0
    (refine RetX.of_bodyW Tryd.func67 rfl (by simp) fun Γ hn hpan => ?_); simp only [entry, List.zipIdx_cons, List.zipIdx_nil, List.map_cons, List.map_nil, Nat.zero_add, Tryd.ntmps67]
    repeat' (first
    | (refine H_cons ?_; simp [hne, hf0, hf3, del, Nat.add_assoc])
    | (refine H_nil ?_; simp [hne, hf0, hf3, del, Nat.add_assoc])
    | (refine V_sseq ?_; simp [hne, hf0, hf3, del, Nat.add_assoc])
    | (refine V_scond ?_; simp [hne, hf0, hf3, del, Nat.add_assoc])
    | (refine V_ret ?_; simp only [RunK])
    | (refine V_skip ?_; simp only [RunK])
    | (refine CallP.ok1 (hh1 _ (by first | omega | (simp; done) | (simp; omega) | fail)) (by first | (simp [hne, hf0, hf3, del, Nat.add_assoc, getK_cons, getK, getK_append, getK_del]; done) | fail) (by rfl) (by first | assumption | (simp; done) | fail) (by rfl) (by simp) ?_; (try simp [hne, hf0, hf3, del, Nat.add_assoc]))
    | (refine CallP.ok1 (hh2 _ (by first | omega | (simp; done) | (simp; omega) | fail)) (by first | (simp [hne, hf0, hf3, del, Nat.add_assoc, getK_cons, getK, getK_append, getK_del]; done) | fail) (by rfl) (by first | assumption | (simp; done) | fail) (by rfl) (by simp) ?_; (try simp [hne, hf0, hf3, del, Nat.add_assoc]))
    | (refine CallP.ok1 (ha _ (by first | omega | (simp; done) | (simp; omega) | fail)) (by first | (simp [hne, hf0, hf3, del, Nat.add_assoc, getK_cons, getK, getK_append, getK_del]; done) | fail) (by rfl) (by first | assumption | (simp; done) | fail) (by rfl) (by simp) ?_; (try simp [hne, hf0, hf3, del, Nat.add_assoc]))
    | fail)
    refine EndW.norm ?_
    simp [St.norm, normOb, normD, normU, norm1, hne, Nat.add_assoc]
    (refine EndW.here ?_; (first | (refine EndOK.fin (.inr rfl) ?_) | (refine EndOK.fin (.inl rfl) ?_)); simp [resD, oneOrTup, Tryd.results67, hne, hi]; refine FinOK.cut [(i, pOb l q0)] (nx) (by simp [getK_cons, getK, getK_append, getK_del, Ob.under, D.under, under_rowsD, under_entD, hne, hi] <;> omega) (by simp [D.under]) (by simp [hn]) ?_; try simp)
    exact PPost.at_ok (by simp [PR.bind, *]; rfl) (by simp [Exp.row_eq, Exp.op, Exp.n, Exp.unit, Exp.s, Exp.args]) rfl
theorem prefix_prim1 {l : List Tok} (hl : TokOK l) {f p : Nat} {form : Int} (hP : PrimOK l f) (hp : p < l.length) (hf : 4 * (l.length - p) + 1 ≤ f)
    (hf0 : ¬ form = 0) (hf3 : form ≤ 3) (h2 : isB l p [110, 111, 116] = false) {i nx : Nat} (hi : i < nx) :
    RetX Tryd.prog 67 [.ptr i 0, intD form] [(i, pOb l p)] nx (PPost l i nx pairD (prefixP l (f + 1) p form)) := by
  have hne := ne_facts hi
  have hll := hl.len
  rw [prefixP]
  have hh2 := fun nx' (h : nx ≤ nx') => has_ret l p [110, 111, 116] i nx' (by omega) hp hl.len
  rw [h2] at hh2
  simp only [if_true, Bool.false_eq_true, if_false] at hh2
  rw [if_neg (by simp [*]), if_neg (by simp [*])]
  have ha := fun nx' (h : nx ≤ nx') => hP p i nx' (by omega) hp (by omega)
  cases hr0 : primaryP l f p with
  | stop pos e =>
    simp only [hr0] at ha
    (refine RetX.of_bodyW Tryd.func67 rfl (by simp) fun Γ hn hpan => ?_); simp only [entry, List.zipIdx_cons, List.zipIdx_nil, List.map_cons, List.map_nil, Nat.zero_add, Tryd.ntmps67]
    repeat' (first
    | (refine H_cons ?_; simp [hne, hf0, hf3, del, Nat.add_assoc])
    | (refine H_nil ?_; simp [hne, hf0, hf3, del, Nat.add_assoc])
    | (refine V_sseq ?_; simp [hne, hf0, hf3, del, Nat.add_assoc])
    | (refine V_scond ?_; simp [hne, hf0, hf3, del, Nat.add_assoc])
    | (refine V_skip ?_; simp only [RunK])
    | (refine CallP.ok1 (hh2 _ (by first | omega | (simp; done) | (simp; omega) | fail)) (by first | (simp [hne, hf0, hf3, del, Nat.add_assoc, getK_cons, getK, getK_append, getK_del]; done) | fail) (by rfl) (by first | assumption | (simp; done) | fail) (by rfl) (by simp) ?_; (try simp [hne, hf0, hf3, del, Nat.add_assoc]))
    | (refine CallP.pan1 (ha _ (by first | omega | (simp; done) | (simp; omega) | fail)) (by first | (simp [hne, hf0, hf3, del, Nat.add_assoc, getK_cons, getK, getK_append, getK_del]; done) | fail) (by rfl) (by first | assumption | (simp; done) | fail) (by rfl) (by simp) ?_; rintro ob' ⟨q', rfl⟩; refine ⟨_, Wk.refl _, ?_⟩)
    | fail)
    (refine hpan _ _ ⟨{ n := _, env := [], obs := [(i, pOb l q')], next := nx }, (Wk.cut rfl (by simp [hn]) (by simp [wkO, getK_cons, getK, getK_append, getK_del, Ob.under, D.under, under_rowsD, under_entD, hi, hne, getK_append, getK_del, getK_cons, getK]) (by simp [wkU, keepE, getK_cons, getK, D.under, hi, hne, getK_append, getK_del, getK_cons, getK]) (by simp [wkE, keepE, getK_cons, getK, hi, hne, getK_append, getK_del, getK_cons, getK])), by simp [hn], ?_⟩; try simp)
    exact PPost.at_stop (by simp [PR.bind, *])
  | ok v0 q0 =>
    have ha := fun nx' h => exp_ok (ha nx' h) hr0
    (refine RetX.of_bodyW Tryd.func67 rfl (by simp) fun Γ hn hpan => ?_); simp only [entry, List.zipIdx_cons, List.zipIdx_nil, List.map_cons, List.map_nil, Nat.zero_add, Tryd.ntmps67]
    repeat' (first
    | (refine H_cons ?_; simp [hne, hf0, hf3, del, Nat.add_assoc])
    | (refine H_nil ?_; simp [hne, hf0, hf3, del, Nat.add_assoc])
    | (refine V_sseq ?_; simp [hne, hf0, hf3, del, Nat.add_assoc])
    | (refine V_scond ?_; simp [hne, hf0, hf3, del, Nat.add_assoc])
    | (refine V_ret ?_; simp only [RunK])
    | (refine V_skip ?_; simp only [RunK])
    | (refine CallP.ok1 (hh2 _ (by first | omega | (simp; done) | (simp; omega) | fail)) (by first | (simp [hne, hf0, hf3, del, Nat.add_assoc, getK_cons, getK, getK_append, getK_del]; done) | fail) (by rfl) (by first | assumption | (simp; done) | fail) (by rfl) (by simp) ?_; (try simp [hne, hf0, hf3, del, Nat.add_assoc]))
    | (refine CallP.ok1 (ha _ (by first | omega | (simp; done) | (simp; omega) | fail)) (by first | (simp [hne, hf0, hf3, del, Nat.add_assoc, getK_cons, getK, getK_append, getK_del]; done) | fail) (by rfl) (by first | assumption | (simp; done) | fail) (by rfl) (by simp) ?_; (try simp [hne, hf0, hf3, del, Nat.add_assoc]))
    | fail)
    refine EndW.norm ?_
    simp [St.norm, normOb, normD, normU, norm1, hne, Nat.add_assoc]
    (refine EndW.here ?_; (first | (refine EndOK.fin (.inr rfl) ?_) | (refine EndOK.fin (.inl rfl) ?_)); simp [resD, oneOrTup, Tryd.results67, hne, hi]; refine FinOK.cut [(i, pOb l q0)] (nx) (by simp [getK_cons, getK, getK_append, getK_del, Ob.under, D.under, under_rowsD, under_entD, hne, hi] <;> omega) (by simp [D.under]) (by simp [hn]) ?_; try simp)
    exact PPost.at_ok (by simp [PR.bind, *]; rfl) (by simp [Exp.row_eq, Exp.op, Exp.n, Exp.unit, Exp.s, Exp.args]) rfl
theorem prefix_prim2 {l : List Tok} (hl : TokOK l) {f p : Nat} {form : Int} (hP : PrimOK l f) (hp : p < l.length) (hf : 4 * (l.length - p) + 1 ≤ f)
    (hf0 : ¬ form = 0) (hf3 : ¬ form ≤ 3) {i nx : Nat} (hi : i < nx) :
    RetX Tryd.prog 67 [.ptr i 0, intD form] [(i, pOb l p)] nx (PPost l i nx pairD (prefixP l (f + 1) p form)) := by
  have hne := ne_facts hi
  have hll := hl.len
  rw [prefixP]
  rw [if_neg (by simp [*]), if_neg (by simp [*])]
  have ha := fun nx' (h : nx ≤ nx') => hP p i nx' (by omega) hp (by omega)
  cases hr0 : primaryP l f p with
  | stop pos e =>
    simp only [hr0] at ha
    (refine RetX.of_bodyW Tryd.func67 rfl (by simp) fun Γ hn hpan => ?_); simp only [entry, List.zipIdx_cons, List.zipIdx_nil, List.map_cons, List.map_nil, Nat.zero_add, Tryd.ntmps67]
    repeat' (first
    | (refine H_cons ?_; simp [hne, hf0, hf3, del, Nat.add_assoc])
    | (refine H_nil ?_; simp [hne, hf0, hf3, del, Nat.add_assoc])
    | (refine V_sseq ?_; simp [hne, hf0, hf3, del, Nat.add_assoc])
    | (refine V_scond ?_; simp [hne, hf0, hf3, del, Nat.add_assoc])
    | (refine V_skip ?_; simp only [RunK])
    | (refine CallP.pan1 (ha _ (by first | omega | (simp; done) | (simp; omega) | fail)) (by first | (simp [hne, hf0, hf3, del, Nat.add_assoc, getK_cons, getK, getK_append, getK_del]; done) | fail) (by rfl) (by first | assumption | (simp; done) | fail) (by rfl) (by simp) ?_; rintro ob' ⟨q', rfl⟩; refine ⟨_, Wk.refl _, ?_⟩)
    | fail)
    (refine hpan _ _ ⟨{ n := _, env := [], obs := [(i, pOb l q')], next := nx }, (Wk.cut rfl (by simp [hn]) (by simp [wkO, getK_cons, getK, getK_append, getK_del, Ob.under, D.under, under_rowsD, under_entD, hi, hne, getK_append, getK_del, getK_cons, getK]) (by simp [wkU, keepE, getK_cons, getK, D.under, hi, hne, getK_append, getK_del, getK_cons, getK]) (by simp [wkE, keepE, getK_cons, getK, hi, hne, getK_append, getK_del, getK_cons, getK])), by simp [hn], ?_⟩; try simp)
    exact PPost.at_stop (by simp [PR.bind, *])
  | ok v0 q0 =>
    have ha := fun nx' h => exp_ok (ha nx' h) hr0
    (refine RetX.of_bodyW Tryd.func67 rfl (by simp) fun Γ hn hpan => ?_); simp only [entry, List.zipIdx_cons, List.zipIdx_nil, List.map_cons, List.map_nil, Nat.zero_add, Tryd.ntmps67]
    repeat' (first
    | (refine H_cons ?_; simp [hne, hf0, hf3, del, Nat.add_assoc])
    | (refine H_nil ?_; simp [hne, hf0, hf3, del, Nat.add_assoc])
    | (refine V_sseq ?_; simp [hne, hf0, hf3, del, Nat.add_assoc])
    | (refine V_scond ?_; simp [hne, hf0, hf3, del, Nat.add_assoc])
    | (refine V_ret ?_; simp only [RunK])
    | (refine V_skip ?_; simp only [RunK])
    | (refine CallP.ok1 (ha _ (by first | omega | (simp; done) | (simp; omega) | fail)) (by first | (simp [hne, hf0, hf3, del, Nat.add_assoc, getK_cons, getK, getK_append, getK_del]; done) | fail) (by rfl) (by first | assumption | (simp; done) | fail) (by rfl) (by simp) ?_; (try simp [hne, hf0, hf3, del, Nat.add_assoc]))
    | fail)
    refine EndW.norm ?_
    simp [St.norm, normOb, normD, normU, norm1, hne, Nat.add_assoc]
    (refine EndW.here ?_; (first | (refine EndOK.fin (.inr rfl) ?_) | (refine EndOK.fin (.inl rfl) ?_)); simp [resD, oneOrTup, Tryd.results67, hne, hi]; refine FinOK.cut [(i, pOb l q0)] (nx) (by simp [getK_cons, getK, getK_append, getK_del, Ob.under, D.under, under_rowsD, under_entD, hne, hi] <;> omega) (by simp [D.under]) (by simp [hn]) ?_; try simp)
    exact PPost.at_ok (by simp [PR.bind, *]; rfl) (by simp [Exp.row_eq, Exp.op, Exp.n, Exp.unit, Exp.s, Exp.args]) rfl
theorem prefix_step {l : List Tok} (hl : TokOK l) {f : Nat} (hE : ExpOK l f) (hP : PrimOK l f) : PreOK l (f + 1) := by
  intro p form i nx hi hp hf hm0 hm7
  have hf' : 4 * (l.length - p) + 1 ≤ f := by omega
  by_cases hf0 : form = 0
  · have hf3 : form ≤ 3 := by omega
    cases h1 : isB l p [105, 102] with
    | true => exact prefix_if hl hE hp hf' hf0 h1 hi
    | false =>
      cases h2 : isB l p [110, 111, 116] with
      | true => exact prefix_not0 hl hE hp hf' hf0 hf3 h1 h2 hi
      | false => exact prefix_prim0 hl hP hp hf' hf0 hf3 h1 h2 hi
  · by_cases hf3 : form ≤ 3
    · cases h2 : isB l p [110, 111, 116] with
      | true => exact prefix_not1 hl hE hp hf' hf0 hf3 h2 hi
      | false => exact prefix_prim1 hl hP hp hf' hf0 hf3 h2 hi
    · exact prefix_prim2 hl hP hp hf' hf0 hf3 hi
end Go.Proofs.YtfcopibncpkdoaaDoor
namespace Go.Proofs.YtfcopibncpkdoaaDoor
open Go Go.VL
attribute [local simp] hcons hstep evPure opd uOf putOK St.put St.at getK binD binI binS binB nilD aggD eqUs cmpK lookD lookR rangeD nextD entryD keyD valU keyU lookK mkV entD_nil lookK_entD updK_entD1 updK_entD3 allUE allUE_entD makeMapD mapUpdD mapEff updK valM Key.kk shiftI arith unD convD pickD loadD cellsAt fieldAddrD fieldD indexAddrD indexD sliceD cutD lenD minmaxD nilCheckD buildD fillD cellsD isOne ones setAll mkAgg allU allocD boxD storeD St.add buildSliceD appendD rowsOf makeD setOb getK_setOb getK_del getK_cons stripL strip guardTmp entry chunks zcells valD argsV argsW argW argU1 argU0 argsU0 argsU1 calleeOf scalarD scalarU delAll effD St.effS RK_seq RK_seq_ret RK_seq_exit RK_blk RK_blk_ret RK_blk_exit RK_loop RK_loop_ret RK_loop_exit RK_done vs_seq vs_block vs_cond vs_region vs_loop vs_draw applyW mkD rdIds lentIds callOf calleeOf freeOp D.ids Op.operands Call.operands isEffOp makeIfD typeAssertD conc concs conc1 uOfV panicD IntKind.bits allU2 allU2_append List.take_of_length_le List.range_succ
attribute [local irreducible] V G H HD HD2 RunK Eff CallP CallV EndOK Fun Ret FinOK LoopI LoopW EndW
abbrev oagg (o : Opr) : D := .u (.agg [.str o.text, .int .i64 o.op, .int .i64 o.form])
abbrev oprsU (l : List Opr) : U := .sl (l.map fun o => [.str o.text, .int .i64 o.op, .int .i64 o.form])
theorem operators_fun : Fun Tryd.prog 69 [] (· = .u (oprsU oprs)) := by
  unfold oprsU oprs
  (refine Fun.of_bodyW Tryd.func69 rfl (by simp) fun Γ hn => ?_); simp only [entry, List.zipIdx_cons, List.zipIdx_nil, List.map_cons, List.map_nil, Nat.zero_add, Tryd.ntmps69]
  repeat' (first
    | (refine H_cons ?_; simp [zcells, chunks])
    | (refine H_nil ?_; simp [zcells, chunks])
    | (refine V_sseq ?_; simp [zcells, chunks])
    | (refine V_ret ?_; simp only [RunK])
    | fail)
  (refine EndW.frzN 1 ?_; simp [frzN, frz1, frz_env, frz_obs, St.frz, St.frzS, frzS, fv, fzVec, fzMap, fzBox, frzObS, frz_entD, frz_rowsD, del, frz, frzOb])
  refine EndW.here ?_
  (refine EndOK.val (.inr rfl) ?_; simp [resD, oneOrTup, pureD, Tryd.results69])
theorem expC_fun (l : List Tok) (q : Nat) (o : Opr) (hq : q < l.length) (hl : l.length ≤ 1000000) : Fun Tryd.prog 70 (oagg o :: [U.row [pRow l q] 0].map .u) (· = .u (.bool (isB l q o.text))) := by
  have h1 := is_fun l q o.text hq hl
  simp only [List.map_cons, List.map_nil, oagg]
  (refine Fun.of_body Tryd.func70 rfl (by simp) fun Γ hn => ?_); simp only [entry, List.zipIdx_cons, List.zipIdx_nil, List.map_cons, List.map_nil, Nat.zero_add, Tryd.ntmps70]
  repeat' (first
    | (refine H_cons ?_; simp)
    | (refine H_nil ?_; simp)
    | (refine V_sseq ?_; simp)
    | (refine V_ret ?_; simp only [RunK])
    | (refine CallP.fun_ (h1) (by first | rfl | fail) (by first | assumption | (simp; done) | fail) (by first | (simp; done) | (simp; rfl) | fail) (by first | (simp; done) | fail) (fun d hd => ?_); subst hd; (try simp))
    | fail)
  (refine EndOK.val (.inr rfl) ?_; simp [resD, oneOrTup, pureD, Tryd.results70])
theorem indexO_fun (l : List (Opr)) (f : FuncId) (caps : List U) (p : Opr → Bool) (hf : ∀ n ∈ l, Fun Tryd.prog f (oagg n :: caps.map .u) (· = .u (.bool (p n)))) (hcl : callable Tryd.prog f = true)
    (hca : ∀ o, argsW o (caps.map .u) = some (caps.map .u, [])) : Fun Tryd.prog 68 [.u (oprsU l), .fnc (.func f) (caps.map .u)] (· = .u (.int .i64 (idxP p l 0))) := by
  (refine Fun.of_body Tryd.func68 rfl (by simp) fun Γ hn => ?_); simp only [entry, List.zipIdx_cons, List.zipIdx_nil, List.map_cons, List.map_nil, Nat.zero_add, Tryd.ntmps68]
  simp only [oprsU]
  refine V_len (x := 0) rfl fun hl => ?_
  simp at hl
  repeat' (first
    | (refine H_cons ?_; simp)
    | (refine H_nil ?_; simp)
    | (refine V_sseq ?_; simp)
    | (refine V_sblock ?_; simp)
    | fail)
  refine V_loopF (α := { i : Nat // i ≤ l.length ∧ ∀ c ∈ l.take i, p c = false }) [0, 1, 7] (fun i => [(8, .u (.int .i64 i.1))]) (fun i => l.length - i.1) ⟨0, by omega, by simp⟩ ?_ ?_
  · exact (Wk.env rfl rfl rfl (by simp [wkE, St.lp, keepE, getK_cons, getK] <;> (try (intros; simp_all; done)) <;> (try (intros; omega)) <;> (try grind)))
  rintro ⟨i, hi, hb⟩
  simp [St.lp, St.only, keepE, getK_cons, getK]
  rcases hx : l[i]? with _ | n
  · have hge : l.length ≤ i := by simpa using hx
    repeat' (first
    | (refine H_cons ?_; simp [hx])
    | (refine H_nil ?_; simp [hx])
    | (refine ⟨by omega, ?_⟩)
    | (refine V_sseq ?_; simp [hx])
    | (refine V_ret ?_; simp only [RunK])
    | (refine V_exit ?_; simp [RunK])
    | (intro hc <;> (try (exfalso; omega)))
    | fail)
    (refine EndOK.val (.inr rfl) ?_; simp [resD, oneOrTup, pureD, Tryd.results68])
    rw [List.take_of_length_le hge] at hb
    exact (idxP_none hb).symm
  · have hlt : i < l.length := (List.getElem?_eq_some_iff.1 hx).1
    have h1 := hf n (List.mem_of_getElem? hx)
    simp only [oagg] at h1
    cases hp : p n
    · rw [hp] at h1
      repeat' (first
    | (refine H_cons ?_; simp [hx, hca])
    | (refine H_nil ?_; simp [hx, hca])
    | (refine ⟨by omega, ?_⟩)
    | (refine V_sseq ?_; simp [hx, hca])
    | (refine V_scond ?_; simp [hx, hca])
    | (refine V_sregion ?_; simp [hx, hca])
    | (refine V_skip ?_; simp only [RunK])
    | (refine ⟨?_, by omega⟩)
    | (intro hc <;> (try (exfalso; omega)))
    | (refine CallP.fun_ (h1) (by first | rfl | fail) (by first | assumption | (simp; done) | fail) (by first | (simp [hx, hca]; done) | (simp [hx, hca]; rfl) | fail) (by first | (simp; done) | fail) (fun d hd => ?_); subst hd; (try simp [hx, hca]))
    | fail)
      refine LoopW.next ⟨i + 1, by omega, take_succ_all hx hb hp⟩ (by simp; omega) ?_
      exact (Wk.env rfl rfl rfl (by simp [wkE, St.lp, keepE, getK_cons, getK] <;> (try (intros; simp_all; done)) <;> (try (intros; omega)) <;> (try grind)))
    · rw [hp] at h1
      repeat' (first
    | (refine H_cons ?_; simp [hx, hca])
    | (refine H_nil ?_; simp [hx, hca])
    | (refine V_sseq ?_; simp [hx, hca])
    | (refine V_scond ?_; simp [hx, hca])
    | (refine V_ret ?_; simp only [RunK])
    | (refine V_skip ?_; simp only [RunK])
    | (refine ⟨?_, by omega⟩)
    | (intro hc <;> (try (exfalso; omega)))
    | (refine CallP.fun_ (h1) (by first | rfl | fail) (by first | assumption | (simp; done) | fail) (by first | (simp [hx, hca]; done) | (simp [hx, hca]; rfl) | fail) (by first | (simp; done) | fail) (fun d hd => ?_); subst hd; (try simp [hx, hca]))
    | fail)
      (refine EndOK.val (.inr rfl) ?_; simp [resD, oneOrTup, pureD, Tryd.results68])
      rw [idxP_at hb hx hp]
      omega
theorem idxP_find {p : Opr → Bool} : ∀ (L : List Opr) (k : Int), (L.find? p = none → idxP p L k = -1) ∧ ∀ x, L.find? p = some x → ∃ j : Nat, L[j]? = some x ∧ idxP p L k = k + j
  | [], k => ⟨fun _ => rfl, fun x h => by simp at h⟩
  | a :: L, k => by
    by_cases h : p a = true
    · refine ⟨fun h1 => by simp [h] at h1, fun x h1 => ?_⟩
      rw [List.find?_cons, h] at h1
      cases h1
      exact ⟨0, rfl, by rw [idxP, if_pos h]; simp⟩
    · have h' : p a = false := by simpa using h
      obtain ⟨h1, h2⟩ := idxP_find L (k + 1)
      refine ⟨fun h3 => ?_, fun x h3 => ?_⟩
      · rw [List.find?_cons, h'] at h3
        rw [idxP, if_neg h]
        exact h1 h3
      · rw [List.find?_cons, h'] at h3
        obtain ⟨j, h4, h5⟩ := h2 x h3
        exact ⟨j + 1, h4, by rw [idxP, if_neg h, h5]; omega⟩
theorem indexO_ret (l : List Tok) (q : Nat) (hq : q < l.length) (hl : l.length ≤ 1000000) : Fun Tryd.prog 68 [.u (oprsU oprs), .fnc (.func 70) [.u (.row [pRow l q] 0)]]
    (· = .u (.int .i64 (idxP (fun o => isB l q o.text) oprs 0))) :=
  indexO_fun oprs 70 [U.row [pRow l q] 0] (fun o => isB l q o.text) (fun o _ => expC_fun l q o hq hl) rfl (fun o => rfl)
end Go.Proofs.YtfcopibncpkdoaaDoor
namespace Go.Proofs.YtfcopibncpkdoaaDoor
open Go Go.VL
attribute [local simp] HS hcons hstep evPure opd uOf putOK St.put St.at getK binD binI binS binB nilD aggD eqUs cmpK lookD lookR rangeD nextD entryD keyD valU keyU lookK mkV entD_nil lookK_entD updK_entD1 updK_entD3 allUE allUE_entD makeMapD mapUpdD mapEff updK valM Key.kk shiftI arith unD convD pickD loadD cellsAt fieldAddrD fieldD indexAddrD indexD sliceD cutD lenD minmaxD nilCheckD buildD fillD cellsD isOne ones setAll mkAgg allU allocD boxD storeD St.add buildSliceD appendD rowsOf makeD setOb getK_setOb getK_del getK_cons stripL strip guardTmp entry chunks zcells valD argsV argsW argW argU1 argU0 argsU0 argsU1 calleeOf scalarD scalarU delAll effD St.effS RK_seq RK_seq_ret RK_seq_exit RK_blk RK_blk_ret RK_blk_exit RK_loop RK_loop_ret RK_loop_exit RK_done vs_seq vs_block vs_cond vs_region vs_loop vs_draw applyW mkD rdIds lentIds callOf calleeOf freeOp D.ids Op.operands Call.operands isEffOp makeIfD typeAssertD conc concs conc1 uOfV panicD IntKind.bits allU2 allU2_append List.take_of_length_le List.range_succ
attribute [local irreducible] V G H HD HD2 HD4 HD4h RetX RunK Eff CallP CallV EndOK Fun Ret FinOK LoopI LoopW EndW
theorem pre_ok {l : List Tok} {F : FuncId} {r : PR (Exp × Int)} {e : Exp × Int} {q i nx : Nat} {ds : List D} {obs : List (Nat × Ob)} (h : RetX Tryd.prog F ds obs nx (PPost l i nx pairD r)) (hr : r = .ok e q) :
    RetX Tryd.prog F ds obs nx fun r o n => r = .val (.tup [.u (.agg [.int .i64 e.1.op, .int .i64 e.1.n, .int .i64 e.1.unit, .str e.1.s, .sl (e.1.args.map Exp.row)]), .u (.int .i64 e.2)]) ∧ o = [(i, pOb l q)] ∧ n = nx := by
  subst hr
  rw [← Exp.row_eq]
  exact h
abbrev expOb (e : Exp) : Ob := .box [.u (.int .i64 e.op), .u (.int .i64 e.n), .u (.int .i64 e.unit), .u (.str e.s), .u (.sl (e.args.map Exp.row))]
theorem exp_step {l : List Tok} (hl : TokOK l) {f : Nat} (hE : ∀ g, g < f → ExpOK l g) (hP : PreOK l f) : ExpOK l (f + 1) := by
  intro p form i nx hi hp hf hm0 hm7
  have hne := ne_facts hi
  have hll := hl.len
  rw [expP]
  have ha := fun nx' (h : nx ≤ nx') => hP p form i nx' (by omega) hp (by omega) hm0 hm7
  have hop := operators_fun
  cases hr0 : prefixP l f p form with
  | stop pos e =>
    simp only [hr0] at ha
    (refine RetX.of_bodyW Tryd.func41 rfl (by simp) fun Γ hn hpan => ?_); simp only [entry, List.zipIdx_cons, List.zipIdx_nil, List.map_cons, List.map_nil, Nat.zero_add, Tryd.ntmps41]
    repeat' (first
    | (refine H_cons ?_; simp [hne, del, Nat.add_assoc])
    | (refine H_nil ?_; simp [hne, del, Nat.add_assoc])
    | (refine V_sseq ?_; simp [hne, del, Nat.add_assoc])
    | (refine CallP.pan1 (ha _ (by first | omega | (simp; done) | (simp; omega) | fail)) (by first | (simp [hne, del, Nat.add_assoc, getK_cons, getK, getK_append, getK_del]; done) | fail) (by rfl) (by first | assumption | (simp; done) | fail) (by rfl) (by simp) ?_; rintro ob' ⟨q', rfl⟩; refine ⟨_, Wk.refl _, ?_⟩)
    | fail)
    (refine hpan _ _ ⟨{ n := _, env := [], obs := [(i, pOb l q')], next := nx }, (Wk.cut rfl (by simp [hn]) (by simp [wkO, getK_cons, getK, getK_append, getK_del, Ob.under, D.under, under_rowsD, under_entD, hi, hne, getK_append, getK_del, getK_cons, getK]) (by simp [wkU, keepE, getK_cons, getK, D.under, hi, hne, getK_append, getK_del, getK_cons, getK]) (by simp [wkE, keepE, getK_cons, getK, hi, hne, getK_append, getK_del, getK_cons, getK])), by simp [hn], ?_⟩; try simp)
    exact PPost.at_stop (by simp [PR.bind, *])
  | ok v0 q0 =>
    have ha := fun nx' h => pre_ok (ha nx' h) hr0
    obtain ⟨g0a, g0b⟩ := (parse_le hl f).2.2.1 _ _ _ _ hr0 hp
    generalize hR : (PR.ok v0 q0).bind (fun e q => loopP l f form e.1 e.2 q) = R
    have hR' : R = loopP l f form v0.1 v0.2 q0 := hR.symm
    (refine RetX.of_bodyW Tryd.func41 rfl (by simp) fun Γ hn hpan => ?_); simp only [entry, List.zipIdx_cons, List.zipIdx_nil, List.map_cons, List.map_nil, Nat.zero_add, Tryd.ntmps41]
    repeat' (first
    | (refine H_cons ?_; simp [hne, del, Nat.add_assoc])
    | (refine H_nil ?_; simp [hne, del, Nat.add_assoc])
    | (refine V_sseq ?_; simp [hne, del, Nat.add_assoc])
    | (refine V_sblock ?_; simp [hne, del, Nat.add_assoc])
    | (refine CallP.ok1 (ha _ (by first | omega | (simp; done) | (simp; omega) | fail)) (by first | (simp [hne, del, Nat.add_assoc, getK_cons, getK, getK_append, getK_del]; done) | fail) (by rfl) (by first | assumption | (simp; done) | fail) (by rfl) (by simp) ?_; (try simp [hne, del, Nat.add_assoc]))
    | fail)
    refine V_loopO (α := { x : Exp × Int × Nat × Nat // x.2.2.1 < l.length ∧ 4 * (l.length - x.2.2.1) + 2 ≤ x.2.2.2 ∧ x.2.2.2 ≤ f ∧ R = loopP l x.2.2.2 form x.1 x.2.1 x.2.2.1 }) [0, 1, 2, 4, 5] (fun x => [(6, .u (.int .i64 x.1.2.1))])
      (fun x => [(nx + 2, expOb x.1.1), (nx + 1, .box [.u (.int .i64 0), .u (.int .i64 0), .u (.int .i64 0), .u (.str []), .u .nil]), (nx, .box [.ptr i 0]), (i, pOb l x.1.2.2.1)]) (nx + 3) (fun x => x.1.2.2.2) ⟨(v0.1, v0.2, q0, f), g0b, (by show 4 * (l.length - q0) + 2 ≤ f; omega), (by show f ≤ f; omega), hR'⟩ ?_ ?_
    · have hi3 : i < nx + 3 := by omega
      exact (Wk.cut rfl (by simp [hn, St.lp]) (by simp [wkO, St.lp, getK_cons, getK, Ob.under, D.under, under_rowsD, under_entD, hi, hi3, hne]) (by simp [wkU, St.lp, keepE, getK_cons, getK, D.under, hi, hi3, hne]) (by simp [wkE, St.lp, keepE, getK_cons, getK, hi, hi3, hne] <;> (try (intros; simp_all; done)) <;> (try (intros; omega)) <;> (try grind)))
    rintro ⟨⟨e, own, q, g⟩, h1, h2, h2b, h3⟩
    simp only at h1 h2 h2b h3
    simp [St.lp, St.only, keepE, getK_cons, getK]
    obtain ⟨g, rfl⟩ : ∃ g', g = g' + 1 := ⟨g - 1, by omega⟩
    rw [loopP] at h3
    have hix := indexO_ret l q h1 hl.len
    cases hx : oprAt l q with
    | none =>
      rw [(idxP_find oprs 0).1 hx] at hix
      rw [hx] at h3
      repeat' (first
    | (refine H_cons ?_; simp [hne, del, Nat.add_assoc])
    | (refine H_nil ?_; simp [hne, del, Nat.add_assoc])
    | (refine V_sseq ?_; simp [hne, del, Nat.add_assoc])
    | (refine V_scond ?_; simp [hne, del, Nat.add_assoc])
    | (refine V_sblock ?_; simp [hne, del, Nat.add_assoc])
    | (refine V_ret ?_; simp only [RunK])
    | (refine CallP.fun_ (hop) (by first | rfl | fail) (by first | assumption | (simp; done) | fail) (by first | (simp [hne, del, Nat.add_assoc]; done) | (simp [hne, del, Nat.add_assoc]; rfl) | fail) (by first | (simp; done) | fail) (fun d hd => ?_); subst hd; (try simp [hne, del, Nat.add_assoc]))
    | (refine CallP.fun_ (hix) (by first | rfl | fail) (by first | assumption | (simp; done) | fail) (by first | (simp [hne, del, Nat.add_assoc]; done) | (simp [hne, del, Nat.add_assoc]; rfl) | fail) (by first | (simp; done) | fail) (fun d hd => ?_); subst hd; (try simp [hne, del, Nat.add_assoc]))
    | fail)
      refine EndW.norm ?_
      simp [St.norm, normOb, normD, normU, norm1, hne, Nat.add_assoc]
      (refine EndW.here ?_; (first | (refine EndOK.fin (.inr rfl) ?_) | (refine EndOK.fin (.inl rfl) ?_)); simp [resD, oneOrTup, Tryd.results41, hne, hi]; refine FinOK.cut [(i, pOb l q)] (nx) (by simp [getK_cons, getK, getK_append, getK_del, Ob.under, D.under, under_rowsD, under_entD, hne, hi] <;> omega) (by simp [D.under]) (by simp [hn]) ?_; try simp)
      exact PPost.at_ok h3 (by simp [Exp.row_eq]) rfl
    | some x =>
      obtain ⟨k, hk1, hk2⟩ := (idxP_find oprs 0).2 x hx
      rw [hk2] at hix
      rw [hx] at h3
      simp only at h3
      have hqb := isB_lt hl (by have := List.find?_some (p := fun o : Opr => isB l q o.text) hx; exact this)
      have hk0 : ¬ ((k : Int) < 0) := by omega
      have hkl : k < 8 := (List.getElem?_eq_some_iff.1 hk1).1
      rw [show (0 : Int) + k = (k : Int) by omega] at hix
      have hfm : 0 ≤ x.form ∧ x.form ≤ 6 := by
        have := List.mem_of_getElem? hk1
        simp only [oprs, List.mem_cons, List.not_mem_nil, or_false] at this
        rcases this with rfl | rfl | rfl | rfl | rfl | rfl | rfl | rfl <;> decide
      obtain ⟨hf0, hf6⟩ := hfm
      generalize hL : oprs = L at hop hix hk1
      by_cases c1 : x.form < form
      · rw [if_pos (Or.inl c1)] at h3
        repeat' (first
    | (refine H_cons ?_; simp [hne, del, Nat.add_assoc, hk0, hk1, c1])
    | (refine H_nil ?_; simp [hne, del, Nat.add_assoc, hk0, hk1, c1])
    | (refine V_sseq ?_; simp [hne, del, Nat.add_assoc, hk0, hk1, c1])
    | (refine V_scond ?_; simp [hne, del, Nat.add_assoc, hk0, hk1, c1])
    | (refine V_sblock ?_; simp [hne, del, Nat.add_assoc, hk0, hk1, c1])
    | (refine V_ret ?_; simp only [RunK])
    | (refine V_skip ?_; simp only [RunK])
    | (refine CallP.fun_ (hop) (by first | rfl | fail) (by first | assumption | (simp; done) | fail) (by first | (simp [hne, del, Nat.add_assoc, hk0, hk1, c1]; done) | (simp [hne, del, Nat.add_assoc, hk0, hk1, c1]; rfl) | fail) (by first | (simp; done) | fail) (fun d hd => ?_); subst hd; (try simp [hne, del, Nat.add_assoc, hk0, hk1, c1]))
    | (refine CallP.fun_ (hix) (by first | rfl | fail) (by first | assumption | (simp; done) | fail) (by first | (simp [hne, del, Nat.add_assoc, hk0, hk1, c1]; done) | (simp [hne, del, Nat.add_assoc, hk0, hk1, c1]; rfl) | fail) (by first | (simp; done) | fail) (fun d hd => ?_); subst hd; (try simp [hne, del, Nat.add_assoc, hk0, hk1, c1]))
    | fail)
        refine EndW.norm ?_
        simp [St.norm, normOb, normD, normU, norm1, hne, Nat.add_assoc]
        (refine EndW.here ?_; (first | (refine EndOK.fin (.inr rfl) ?_) | (refine EndOK.fin (.inl rfl) ?_)); simp [resD, oneOrTup, Tryd.results41, hne, hi]; refine FinOK.cut [(i, pOb l q)] (nx) (by simp [getK_cons, getK, getK_append, getK_del, Ob.under, D.under, under_rowsD, under_entD, hne, hi] <;> omega) (by simp [D.under]) (by simp [hn]) ?_; try simp)
        exact PPost.at_ok h3 (by simp [Exp.row_eq]) rfl
      · by_cases c2 : own < x.form
        · rw [if_pos (Or.inr (Or.inl c2))] at h3
          repeat' (first
    | (refine H_cons ?_; simp [hne, del, Nat.add_assoc, hk0, hk1, c1, c2])
    | (refine H_nil ?_; simp [hne, del, Nat.add_assoc, hk0, hk1, c1, c2])
    | (refine V_sseq ?_; simp [hne, del, Nat.add_assoc, hk0, hk1, c1, c2])
    | (refine V_scond ?_; simp [hne, del, Nat.add_assoc, hk0, hk1, c1, c2])
    | (refine V_sblock ?_; simp [hne, del, Nat.add_assoc, hk0, hk1, c1, c2])
    | (refine V_ret ?_; simp only [RunK])
    | (refine V_skip ?_; simp only [RunK])
    | (refine CallP.fun_ (hop) (by first | rfl | fail) (by first | assumption | (simp; done) | fail) (by first | (simp [hne, del, Nat.add_assoc, hk0, hk1, c1, c2]; done) | (simp [hne, del, Nat.add_assoc, hk0, hk1, c1, c2]; rfl) | fail) (by first | (simp; done) | fail) (fun d hd => ?_); subst hd; (try simp [hne, del, Nat.add_assoc, hk0, hk1, c1, c2]))
    | (refine CallP.fun_ (hix) (by first | rfl | fail) (by first | assumption | (simp; done) | fail) (by first | (simp [hne, del, Nat.add_assoc, hk0, hk1, c1, c2]; done) | (simp [hne, del, Nat.add_assoc, hk0, hk1, c1, c2]; rfl) | fail) (by first | (simp; done) | fail) (fun d hd => ?_); subst hd; (try simp [hne, del, Nat.add_assoc, hk0, hk1, c1, c2]))
    | fail)
          refine EndW.norm ?_
          simp [St.norm, normOb, normD, normU, norm1, hne, Nat.add_assoc]
          (refine EndW.here ?_; (first | (refine EndOK.fin (.inr rfl) ?_) | (refine EndOK.fin (.inl rfl) ?_)); simp [resD, oneOrTup, Tryd.results41, hne, hi]; refine FinOK.cut [(i, pOb l q)] (nx) (by simp [getK_cons, getK, getK_append, getK_del, Ob.under, D.under, under_rowsD, under_entD, hne, hi] <;> omega) (by simp [D.under]) (by simp [hn]) ?_; try simp)
          exact PPost.at_ok h3 (by simp [Exp.row_eq]) rfl
        · by_cases c3 : own = 4 ∧ x.form = 4
          · rw [if_pos (Or.inr (Or.inr c3))] at h3
            obtain ⟨c4, c5⟩ := c3
            repeat' (first
    | (refine H_cons ?_; simp [hne, del, Nat.add_assoc, hk0, hk1, c1, c2, c4, c5])
    | (refine H_nil ?_; simp [hne, del, Nat.add_assoc, hk0, hk1, c1, c2, c4, c5])
    | (refine V_sseq ?_; simp [hne, del, Nat.add_assoc, hk0, hk1, c1, c2, c4, c5])
    | (refine V_scond ?_; simp [hne, del, Nat.add_assoc, hk0, hk1, c1, c2, c4, c5])
    | (refine V_sblock ?_; simp [hne, del, Nat.add_assoc, hk0, hk1, c1, c2, c4, c5])
    | (refine V_ret ?_; simp only [RunK])
    | (refine V_skip ?_; simp only [RunK])
    | (refine ⟨?_, by omega⟩)
    | (intro hc <;> (try (exfalso; omega)))
    | (refine CallP.fun_ (hop) (by first | rfl | fail) (by first | assumption | (simp; done) | fail) (by first | (simp [hne, del, Nat.add_assoc, hk0, hk1, c1, c2, c4, c5]; done) | (simp [hne, del, Nat.add_assoc, hk0, hk1, c1, c2, c4, c5]; rfl) | fail) (by first | (simp; done) | fail) (fun d hd => ?_); subst hd; (try simp [hne, del, Nat.add_assoc, hk0, hk1, c1, c2, c4, c5]))
    | (refine CallP.fun_ (hix) (by first | rfl | fail) (by first | assumption | (simp; done) | fail) (by first | (simp [hne, del, Nat.add_assoc, hk0, hk1, c1, c2, c4, c5]; done) | (simp [hne, del, Nat.add_assoc, hk0, hk1, c1, c2, c4, c5]; rfl) | fail) (by first | (simp; done) | fail) (fun d hd => ?_); subst hd; (try simp [hne, del, Nat.add_assoc, hk0, hk1, c1, c2, c4, c5]))
    | fail)
            refine EndW.norm ?_
            simp [St.norm, normOb, normD, normU, norm1, hne, Nat.add_assoc]
            (refine EndW.here ?_; (first | (refine EndOK.fin (.inr rfl) ?_) | (refine EndOK.fin (.inl rfl) ?_)); simp [resD, oneOrTup, Tryd.results41, hne, hi]; refine FinOK.cut [(i, pOb l q)] (nx) (by simp [getK_cons, getK, getK_append, getK_del, Ob.under, D.under, under_rowsD, under_entD, hne, hi] <;> omega) (by simp [D.under]) (by simp [hn]) ?_; try simp)
            exact PPost.at_ok h3 (by simp [Exp.row_eq]) rfl
          · rw [if_neg (by rintro (h | h | h) <;> contradiction)] at h3
            have hb := fun nx' (h : nx ≤ nx') => hE g (by omega) (q + 1) (x.form + 1) i nx' (by omega) hqb (by omega) (by omega) (by omega)
            cases hr1 : expP l g (q + 1) (x.form + 1) with
            | stop pos err =>
              simp only [hr1] at hb
              rw [hr1] at h3
              by_cases c4 : own = 4
              · have c5 : ¬ x.form = 4 := fun h => c3 ⟨c4, h⟩
                repeat' (first
    | (refine HD4_pan1 (fun nx' h' => hb nx' (by simp at h'; omega)) (by first | (simp [hne, del, Nat.add_assoc, hk0, hk1, c1, c2, c4, c5, getK_cons, getK, getK_append, getK_del, getK_setOb, applyW]; done) | fail) (by rfl) (by first | assumption | simp) (by rfl) (by simp) ?_ ?_; rintro env' ob' n' hn' ⟨q', rfl⟩; refine ⟨_, Wk.refl _, ?_⟩)
    | (refine HD4_skipS rfl (by simp) ?_; simp)
    | (refine H_cons ?_; simp [hne, del, Nat.add_assoc, hk0, hk1, c1, c2, c4, c5])
    | (refine HD4_val rfl ?_; simp [hne, del, Nat.add_assoc, hk0, hk1, c1, c2, c4, c5])
    | (refine H_nil ?_; simp [hne, del, Nat.add_assoc, hk0, hk1, c1, c2, c4, c5])
    | (refine ⟨by omega, ?_⟩)
    | (refine V_sseq ?_; simp [hne, del, Nat.add_assoc, hk0, hk1, c1, c2, c4, c5])
    | (refine V_scond ?_; simp [hne, del, Nat.add_assoc, hk0, hk1, c1, c2, c4, c5])
    | (refine HD4_nilS (hC _ (okP4_ren [i] nx (by simp <;> omega) (by simp <;> omega) (by apply Exists.intro; apply And.intro; (focus (repeat' (first | exact KF.nil | exact KL.nil | apply KF.cons | apply KL.cons 0 rfl | apply KL.cons 1 rfl | apply KL.cons 2 rfl | apply KL.cons 3 rfl | apply KL.cons 4 rfl | apply KL.cons 5 rfl | apply KL.cons 6 rfl | apply KL.cons 7 rfl | apply KL.cons 8 rfl | apply KL.cons 9 rfl))); kernel_rfl))) rfl; done)
    | (refine V_drawX rfl (by kernel_rfl) (by first | (simp [hn]; done) | (simp [hn]; omega) | fail) fun C k hC hk => ?_; simp [hne, del, Nat.add_assoc, hk0, hk1, c1, c2, c4, c5])
    | (refine V_sblock ?_; simp [hne, del, Nat.add_assoc, hk0, hk1, c1, c2, c4, c5])
    | (refine V_skip ?_; simp only [RunK])
    | (refine ⟨?_, by omega⟩)
    | (intro hc <;> (try (exfalso; omega)))
    | (refine CallP.fun_ (hop) (by first | rfl | fail) (by first | assumption | (simp; done) | fail) (by first | (simp [hne, del, Nat.add_assoc, hk0, hk1, c1, c2, c4, c5]; done) | (simp [hne, del, Nat.add_assoc, hk0, hk1, c1, c2, c4, c5]; rfl) | fail) (by first | (simp; done) | fail) (fun d hd => ?_); subst hd; (try simp [hne, del, Nat.add_assoc, hk0, hk1, c1, c2, c4, c5]))
    | (refine CallP.fun_ (hix) (by first | rfl | fail) (by first | assumption | (simp; done) | fail) (by first | (simp [hne, del, Nat.add_assoc, hk0, hk1, c1, c2, c4, c5]; done) | (simp [hne, del, Nat.add_assoc, hk0, hk1, c1, c2, c4, c5]; rfl) | fail) (by first | (simp; done) | fail) (fun d hd => ?_); subst hd; (try simp [hne, del, Nat.add_assoc, hk0, hk1, c1, c2, c4, c5]))
    | fail)
                (refine hpan _ _ ⟨{ n := _, env := [], obs := [(i, pOb l q')], next := nx }, (Wk.cut rfl (by simp [hn]) (by simp [wkO, getK_cons, getK, getK_append, getK_del, Ob.under, D.under, under_rowsD, under_entD, hi, hne, getK_append, getK_del, getK_cons, getK]) (by simp [wkU, keepE, getK_cons, getK, D.under, hi, hne, getK_append, getK_del, getK_cons, getK]) (by simp [wkE, keepE, getK_cons, getK, hi, hne, getK_append, getK_del, getK_cons, getK])), by simp [hn], ?_⟩; try simp)
                exact PPost.at_stop h3
              · repeat' (first
    | (refine HD4_pan1 (fun nx' h' => hb nx' (by simp at h'; omega)) (by first | (simp [hne, del, Nat.add_assoc, hk0, hk1, c1, c2, c4, getK_cons, getK, getK_append, getK_del, getK_setOb, applyW]; done) | fail) (by rfl) (by first | assumption | simp) (by rfl) (by simp) ?_ ?_; rintro env' ob' n' hn' ⟨q', rfl⟩; refine ⟨_, Wk.refl _, ?_⟩)
    | (refine HD4_skipS rfl (by simp) ?_; simp)
    | (refine H_cons ?_; simp [hne, del, Nat.add_assoc, hk0, hk1, c1, c2, c4])
    | (refine HD4_val rfl ?_; simp [hne, del, Nat.add_assoc, hk0, hk1, c1, c2, c4])
    | (refine H_nil ?_; simp [hne, del, Nat.add_assoc, hk0, hk1, c1, c2, c4])
    | (refine ⟨by omega, ?_⟩)
    | (refine V_sseq ?_; simp [hne, del, Nat.add_assoc, hk0, hk1, c1, c2, c4])
    | (refine V_scond ?_; simp [hne, del, Nat.add_assoc, hk0, hk1, c1, c2, c4])
    | (refine HD4_nilS (hC _ (okP4_ren [i] nx (by simp <;> omega) (by simp <;> omega) (by apply Exists.intro; apply And.intro; (focus (repeat' (first | exact KF.nil | exact KL.nil | apply KF.cons | apply KL.cons 0 rfl | apply KL.cons 1 rfl | apply KL.cons 2 rfl | apply KL.cons 3 rfl | apply KL.cons 4 rfl | apply KL.cons 5 rfl | apply KL.cons 6 rfl | apply KL.cons 7 rfl | apply KL.cons 8 rfl | apply KL.cons 9 rfl))); kernel_rfl))) rfl; done)
    | (refine V_drawX rfl (by kernel_rfl) (by first | (simp [hn]; done) | (simp [hn]; omega) | fail) fun C k hC hk => ?_; simp [hne, del, Nat.add_assoc, hk0, hk1, c1, c2, c4])
    | (refine V_sblock ?_; simp [hne, del, Nat.add_assoc, hk0, hk1, c1, c2, c4])
    | (refine V_skip ?_; simp only [RunK])
    | (refine CallP.fun_ (hop) (by first | rfl | fail) (by first | assumption | (simp; done) | fail) (by first | (simp [hne, del, Nat.add_assoc, hk0, hk1, c1, c2, c4]; done) | (simp [hne, del, Nat.add_assoc, hk0, hk1, c1, c2, c4]; rfl) | fail) (by first | (simp; done) | fail) (fun d hd => ?_); subst hd; (try simp [hne, del, Nat.add_assoc, hk0, hk1, c1, c2, c4]))
    | (refine CallP.fun_ (hix) (by first | rfl | fail) (by first | assumption | (simp; done) | fail) (by first | (simp [hne, del, Nat.add_assoc, hk0, hk1, c1, c2, c4]; done) | (simp [hne, del, Nat.add_assoc, hk0, hk1, c1, c2, c4]; rfl) | fail) (by first | (simp; done) | fail) (fun d hd => ?_); subst hd; (try simp [hne, del, Nat.add_assoc, hk0, hk1, c1, c2, c4]))
    | fail)
                (refine hpan _ _ ⟨{ n := _, env := [], obs := [(i, pOb l q')], next := nx }, (Wk.cut rfl (by simp [hn]) (by simp [wkO, getK_cons, getK, getK_append, getK_del, Ob.under, D.under, under_rowsD, under_entD, hi, hne, getK_append, getK_del, getK_cons, getK]) (by simp [wkU, keepE, getK_cons, getK, D.under, hi, hne, getK_append, getK_del, getK_cons, getK]) (by simp [wkE, keepE, getK_cons, getK, hi, hne, getK_append, getK_del, getK_cons, getK])), by simp [hn], ?_⟩; try simp)
                exact PPost.at_stop h3
            | ok e2 q2 =>
              have hb := fun nx' h => exp_ok (hb nx' h) hr1
              obtain ⟨g1a, g1b⟩ := (parse_le hl g).1 _ _ _ _ hr1 hqb
              rw [hr1] at h3
              by_cases c4 : own = 4
              · have c5 : ¬ x.form = 4 := fun h => c3 ⟨c4, h⟩
                repeat' (first
    | (refine HD4_ok1 (fun nx' h' => hb nx' (by simp at h'; omega)) (by first | (simp [hne, del, Nat.add_assoc, hk0, hk1, c1, c2, c4, c5, getK_cons, getK, getK_append, getK_del, getK_setOb, applyW]; done) | fail) (by rfl) (by first | assumption | simp) (by rfl) (by simp [D.under, Ob.under]) (by simp) ?_; (try simp [hne, del, Nat.add_assoc, hk0, hk1, c1, c2, c4, c5]))
    | (refine H_cons ?_; simp [hne, del, Nat.add_assoc, hk0, hk1, c1, c2, c4, c5])
    | (refine HD4_val rfl ?_; simp [hne, del, Nat.add_assoc, hk0, hk1, c1, c2, c4, c5])
    | (refine HD4_chg rfl ?_; simp [hne, del, Nat.add_assoc, hk0, hk1, c1, c2, c4, c5])
    | (refine H_nil ?_; simp [hne, del, Nat.add_assoc, hk0, hk1, c1, c2, c4, c5])
    | (refine ⟨by omega, ?_⟩)
    | (refine V_sseq ?_; simp [hne, del, Nat.add_assoc, hk0, hk1, c1, c2, c4, c5])
    | (refine V_scond ?_; simp [hne, del, Nat.add_assoc, hk0, hk1, c1, c2, c4, c5])
    | (refine HD4_nil (hC _ (okP4_ren [i] nx (by simp <;> omega) (by simp <;> omega) (by apply Exists.intro; apply And.intro; (focus (repeat' (first | exact KF.nil | exact KL.nil | apply KF.cons | apply KL.cons 0 rfl | apply KL.cons 1 rfl | apply KL.cons 2 rfl | apply KL.cons 3 rfl | apply KL.cons 4 rfl | apply KL.cons 5 rfl | apply KL.cons 6 rfl | apply KL.cons 7 rfl | apply KL.cons 8 rfl | apply KL.cons 9 rfl))); kernel_rfl))) (hk _ ?_); clear hC hk C k; simp only [RunK])
    | (refine V_drawX rfl (by kernel_rfl) (by first | (simp [hn]; done) | (simp [hn]; omega) | fail) fun C k hC hk => ?_; simp [hne, del, Nat.add_assoc, hk0, hk1, c1, c2, c4, c5])
    | (refine V_sblock ?_; simp [hne, del, Nat.add_assoc, hk0, hk1, c1, c2, c4, c5])
    | (refine V_sregion ?_; simp [hne, del, Nat.add_assoc, hk0, hk1, c1, c2, c4, c5])
    | (refine V_skip ?_; simp only [RunK])
    | (refine ⟨?_, by omega⟩)
    | (intro hc <;> (try (exfalso; omega)))
    | (refine CallP.fun_ (hop) (by first | rfl | fail) (by first | assumption | (simp; done) | fail) (by first | (simp [hne, del, Nat.add_assoc, hk0, hk1, c1, c2, c4, c5]; done) | (simp [hne, del, Nat.add_assoc, hk0, hk1, c1, c2, c4, c5]; rfl) | fail) (by first | (simp; done) | fail) (fun d hd => ?_); subst hd; (try simp [hne, del, Nat.add_assoc, hk0, hk1, c1, c2, c4, c5]))
    | (refine CallP.fun_ (hix) (by first | rfl | fail) (by first | assumption | (simp; done) | fail) (by first | (simp [hne, del, Nat.add_assoc, hk0, hk1, c1, c2, c4, c5]; done) | (simp [hne, del, Nat.add_assoc, hk0, hk1, c1, c2, c4, c5]; rfl) | fail) (by first | (simp; done) | fail) (fun d hd => ?_); subst hd; (try simp [hne, del, Nat.add_assoc, hk0, hk1, c1, c2, c4, c5]))
    | fail)
                have hi3 : i < nx + 3 := by omega
                refine LoopW.next ⟨(.mk x.op 0 0 [] [e, e2], x.form, q2, g), g1b, (by show 4 * (l.length - q2) + 2 ≤ g; omega), (by show g ≤ f; omega), h3⟩ (by show g < g + 1; omega) ?_
                refine Wk.trans (Wk.frzN 1 _) ?_
                simp [hne, Nat.add_assoc, frzN, frz1, frz_env, frz_obs, St.frz, St.frzS, frzS, fv, fzVec, fzMap, fzBox, frzObS, frz_entD, frz_rowsD, del, frz, frzOb]
                exact (Wk.cut rfl (by simp [hn, St.lp]) (by simp [wkO, St.lp, getK_cons, getK, Ob.under, D.under, under_rowsD, under_entD, hi, hi3, hne, Exp.row_eq, Exp.op, Exp.n, Exp.unit, Exp.s, Exp.args]) (by simp [wkU, St.lp, keepE, getK_cons, getK, D.under, hi, hi3, hne, Exp.row_eq, Exp.op, Exp.n, Exp.unit, Exp.s, Exp.args]) (by simp [wkE, St.lp, keepE, getK_cons, getK, hi, hi3, hne, Exp.row_eq, Exp.op, Exp.n, Exp.unit, Exp.s, Exp.args] <;> (try (intros; simp_all; done)) <;> (try (intros; omega)) <;> (try grind)))
              · repeat' (first
    | (refine HD4_ok1 (fun nx' h' => hb nx' (by simp at h'; omega)) (by first | (simp [hne, del, Nat.add_assoc, hk0, hk1, c1, c2, c4, getK_cons, getK, getK_append, getK_del, getK_setOb, applyW]; done) | fail) (by rfl) (by first | assumption | simp) (by rfl) (by simp [D.under, Ob.under]) (by simp) ?_; (try simp [hne, del, Nat.add_assoc, hk0, hk1, c1, c2, c4]))
    | (refine H_cons ?_; simp [hne, del, Nat.add_assoc, hk0, hk1, c1, c2, c4])
    | (refine HD4_val rfl ?_; simp [hne, del, Nat.add_assoc, hk0, hk1, c1, c2, c4])
    | (refine HD4_chg rfl ?_; simp [hne, del, Nat.add_assoc, hk0, hk1, c1, c2, c4])
    | (refine H_nil ?_; simp [hne, del, Nat.add_assoc, hk0, hk1, c1, c2, c4])
    | (refine ⟨by omega, ?_⟩)
    | (refine V_sseq ?_; simp [hne, del, Nat.add_assoc, hk0, hk1, c1, c2, c4])
    | (refine V_scond ?_; simp [hne, del, Nat.add_assoc, hk0, hk1, c1, c2, c4])
    | (refine HD4_nil (hC _ (okP4_ren [i] nx (by simp <;> omega) (by simp <;> omega) (by apply Exists.intro; apply And.intro; (focus (repeat' (first | exact KF.nil | exact KL.nil | apply KF.cons | apply KL.cons 0 rfl | apply KL.cons 1 rfl | apply KL.cons 2 rfl | apply KL.cons 3 rfl | apply KL.cons 4 rfl | apply KL.cons 5 rfl | apply KL.cons 6 rfl | apply KL.cons 7 rfl | apply KL.cons 8 rfl | apply KL.cons 9 rfl))); kernel_rfl))) (hk _ ?_); clear hC hk C k; simp only [RunK])
    | (refine V_drawX rfl (by kernel_rfl) (by first | (simp [hn]; done) | (simp [hn]; omega) | fail) fun C k hC hk => ?_; simp [hne, del, Nat.add_assoc, hk0, hk1, c1, c2, c4])
    | (refine V_sblock ?_; simp [hne, del, Nat.add_assoc, hk0, hk1, c1, c2, c4])
    | (refine V_sregion ?_; simp [hne, del, Nat.add_assoc, hk0, hk1, c1, c2, c4])
    | (refine V_skip ?_; simp only [RunK])
    | (refine CallP.fun_ (hop) (by first | rfl | fail) (by first | assumption | (simp; done) | fail) (by first | (simp [hne, del, Nat.add_assoc, hk0, hk1, c1, c2, c4]; done) | (simp [hne, del, Nat.add_assoc, hk0, hk1, c1, c2, c4]; rfl) | fail) (by first | (simp; done) | fail) (fun d hd => ?_); subst hd; (try simp [hne, del, Nat.add_assoc, hk0, hk1, c1, c2, c4]))
    | (refine CallP.fun_ (hix) (by first | rfl | fail) (by first | assumption | (simp; done) | fail) (by first | (simp [hne, del, Nat.add_assoc, hk0, hk1, c1, c2, c4]; done) | (simp [hne, del, Nat.add_assoc, hk0, hk1, c1, c2, c4]; rfl) | fail) (by first | (simp; done) | fail) (fun d hd => ?_); subst hd; (try simp [hne, del, Nat.add_assoc, hk0, hk1, c1, c2, c4]))
    | fail)
                have hi3 : i < nx + 3 := by omega
                refine LoopW.next ⟨(.mk x.op 0 0 [] [e, e2], x.form, q2, g), g1b, (by show 4 * (l.length - q2) + 2 ≤ g; omega), (by show g ≤ f; omega), h3⟩ (by show g < g + 1; omega) ?_
                refine Wk.trans (Wk.frzN 1 _) ?_
                simp [hne, Nat.add_assoc, frzN, frz1, frz_env, frz_obs, St.frz, St.frzS, frzS, fv, fzVec, fzMap, fzBox, frzObS, frz_entD, frz_rowsD, del, frz, frzOb]
                exact (Wk.cut rfl (by simp [hn, St.lp]) (by simp [wkO, St.lp, getK_cons, getK, Ob.under, D.under, under_rowsD, under_entD, hi, hi3, hne, Exp.row_eq, Exp.op, Exp.n, Exp.unit, Exp.s, Exp.args]) (by simp [wkU, St.lp, keepE, getK_cons, getK, D.under, hi, hi3, hne, Exp.row_eq, Exp.op, Exp.n, Exp.unit, Exp.s, Exp.args]) (by simp [wkE, St.lp, keepE, getK_cons, getK, hi, hi3, hne, Exp.row_eq, Exp.op, Exp.n, Exp.unit, Exp.s, Exp.args] <;> (try (intros; simp_all; done)) <;> (try (intros; omega)) <;> (try grind)))
end Go.Proofs.YtfcopibncpkdoaaDoor
namespace Go.VL
open Go
/-- A slice within a struct that came in has a length that an int holds. -/
theorem V_lenB {P : Program} {Γ : Ctx} {c : Code} {s : St} {Q : Exit → St → Prop} {x j : Nat} {cells : List U} {rows : List (List U)} (hx : getK s.env x = some (.u (.agg cells))) (hj : cells[j]? = some (.sl rows)) (h : rows.length ≤ 9223372036854775807 → V P Γ c s Q) : V P Γ c s Q :=
  V_know (fun K a w hs => by
    have hr := (hs.getK hx).2
    obtain ⟨vs, hl, _, hr⟩ := rep_uagg hr
    have hr := hr j _ hj
    generalize vs.getD j undef = v at hr
    cases hr with
    | slE => simp
    | sl _ b o sz c f hc hcx => unfold maxLen at hcx; omega) h
end Go.VL
namespace Go.Proofs.YtfcopibncpkdoaaDoor
open Go Go.VL
attribute [local simp] hcons hstep evPure opd uOf putOK St.put St.at getK binD binI binS binB nilD aggD eqUs cmpK lookD lookR rangeD nextD entryD keyD valU keyU lookK mkV entD_nil lookK_entD updK_entD1 updK_entD3 allUE allUE_entD makeMapD mapUpdD mapEff updK valM Key.kk shiftI arith unD convD pickD loadD cellsAt fieldAddrD fieldD indexAddrD indexD sliceD cutD lenD minmaxD nilCheckD buildD fillD cellsD isOne ones setAll mkAgg allU allocD boxD storeD St.add buildSliceD appendD rowsOf makeD setOb getK_setOb getK_del getK_cons stripL strip guardTmp entry chunks zcells valD argsV argsW argW argU1 argU0 argsU0 argsU1 calleeOf scalarD scalarU delAll effD St.effS RK_seq RK_seq_ret RK_seq_exit RK_blk RK_blk_ret RK_blk_exit RK_loop RK_loop_ret RK_loop_exit RK_done vs_seq vs_block vs_cond vs_region vs_loop vs_draw applyW mkD rdIds lentIds callOf calleeOf freeOp D.ids Op.operands Call.operands isEffOp makeIfD typeAssertD conc concs conc1 uOfV panicD IntKind.bits allU2 allU2_append List.take_of_length_le List.range_succ
attribute [local irreducible] V G H HD HD2 RunK Eff CallP CallV EndOK Fun Ret FinOK LoopI LoopW EndW
theorem parse_all {l : List Tok} (hl : TokOK l) : ∀ f, ExpOK l f ∧ PreOK l f ∧ PrimOK l f := by
  intro f
  induction f using Nat.strongRecOn with
  | _ f ih =>
    cases f with
    | zero => exact ⟨fun p form i nx _ _ h => by omega, fun p form i nx _ _ h => by omega, fun p i nx _ _ h => by omega⟩
    | succ f =>
      obtain ⟨h1, h2, h3⟩ := ih f (by omega)
      exact ⟨exp_step hl (fun g hg => (ih g (by omega)).1) h2, prefix_step hl h1 h3, primary_step hl h1⟩
def Exp.lev : Exp → Int
  | .mk _ _ _ _ args => (args.map fun e => e.lev).foldl max 0 + 1
theorem Exp.lev_eq (e : Exp) : e.lev = (e.args.map Exp.lev).foldl max 0 + 1 := by
  cases e with
  | mk op n u s args => rw [Exp.lev]; rfl
theorem foldl_max_mem : ∀ (l : List Int) (a : Int), a ≤ l.foldl max a ∧ ∀ x ∈ l, x ≤ l.foldl max a
  | [], a => ⟨by simp, fun x h => by simp at h⟩
  | b :: l, a => by
    obtain ⟨h1, h2⟩ := foldl_max_mem l (max a b)
    refine ⟨by simp only [List.foldl_cons]; omega, fun x hx => ?_⟩
    rcases List.mem_cons.1 hx with rfl | hx
    · simp only [List.foldl_cons]; omega
    · exact h2 x hx
theorem Exp.lev_pos (e : Exp) : 1 ≤ e.lev := by
  rw [Exp.lev_eq]
  have := (foldl_max_mem (e.args.map Exp.lev) 0).1
  omega
theorem Exp.sizeOf_args {e x : Exp} (h : x ∈ e.args) : SizeOf.sizeOf x < SizeOf.sizeOf e := by
  cases e with
  | mk op n u s args =>
    have := List.sizeOf_lt_of_mem h
    simp only [Exp.args] at this
    simp only [Exp.mk.sizeOf_spec]
    omega
theorem levels_all : ∀ (n : Nat) (e : Exp), SizeOf.sizeOf e ≤ n → e.lev ≤ 1000000000 → Fun Tryd.prog 44 [.u (.agg e.row)] (· = .u (.int .i64 e.lev)) := by
  intro n
  induction n with
  | zero =>
    intro e h
    cases e with
    | mk op n u s args => simp only [Exp.mk.sizeOf_spec] at h; omega
  | succ n ih =>
    intro e hs he
    have hx : ∀ x ∈ e.args, Fun Tryd.prog 44 [.u (.agg [.int .i64 x.op, .int .i64 x.n, .int .i64 x.unit, .str x.s, .sl (x.args.map Exp.row)])] (· = .u (.int .i64 x.lev)) := fun x hx => by
      rw [← Exp.row_eq]
      refine ih x (by have := Exp.sizeOf_args hx; omega) ?_
      have := (foldl_max_mem (e.args.map Exp.lev) 0).2 x.lev (List.mem_map.2 ⟨x, hx, rfl⟩)
      rw [Exp.lev_eq] at he
      omega
    have hlb : ∀ k, ((e.args.map Exp.lev).take k).foldl max 0 ≤ 1000000000 := fun k => by
      rw [← List.map_take]
      rw [Exp.lev_eq] at he
      have h2 : (e.args.map Exp.lev).foldl max 0 = (e.args.drop k |>.map Exp.lev).foldl max ((e.args.take k |>.map Exp.lev).foldl max 0) := by
        rw [← List.foldl_append, ← List.map_append, List.take_append_drop]
      have := (foldl_max_mem (e.args.drop k |>.map Exp.lev) ((e.args.take k |>.map Exp.lev).foldl max 0)).1
      omega
    rw [Exp.row_eq, Exp.lev_eq]
    generalize hA : e.args = A at *
    rw [Exp.lev_eq, hA] at he
    (refine Fun.of_body Tryd.func44 rfl (by simp) fun Γ hn => ?_); simp only [entry, List.zipIdx_cons, List.zipIdx_nil, List.map_cons, List.map_nil, Nat.zero_add, Tryd.ntmps44]
    refine V_lenB (x := 0) (j := 4) rfl rfl fun hl => ?_
    simp at hl
    repeat' (first
    | (refine H_cons ?_; simp)
    | (refine H_nil ?_; simp)
    | (refine V_sseq ?_; simp)
    | (refine V_sblock ?_; simp)
    | fail)
    refine V_loopF (α := { k : Nat // k ≤ A.length }) [0, 1, 2, 7, 8] (fun k => [(9, .u (.int .i64 k.1)), (3, .u (.int .i64 (((A.map Exp.lev).take k.1).foldl max 0)))]) (fun k => A.length - k.1) ⟨0, by omega⟩ ?_ ?_
    · exact (Wk.env rfl rfl rfl (by simp [wkE, St.lp, keepE, getK_cons, getK] <;> (try (intros; simp_all; done)) <;> (try (intros; omega)) <;> (try grind)))
    rintro ⟨k, hk⟩
    simp [St.lp, St.only, keepE, getK_cons, getK]
    rcases hy : A[k]? with _ | y
    · have hge : A.length ≤ k := by simpa using hy
      have hb := hlb k
      rw [List.take_of_length_le (by simpa using hge : (A.map Exp.lev).length ≤ k)] at hb ⊢
      have hb0 := (foldl_max_mem (A.map Exp.lev) 0).1
      generalize (A.map Exp.lev).foldl max 0 = M at *
      repeat' (first
    | (refine H_cons ?_; simp [hy])
    | (refine H_nil ?_; simp [hy])
    | (refine ⟨by omega, ?_⟩)
    | (refine V_sseq ?_; simp [hy])
    | (refine V_ret ?_; simp only [RunK])
    | (refine V_exit ?_; simp [RunK])
    | (intro hc <;> (try (exfalso; omega)))
    | fail)
      (refine EndOK.val (.inr rfl) ?_; simp [resD, oneOrTup, pureD, Tryd.results44])
    · have hlt : k < A.length := (List.getElem?_eq_some_iff.1 hy).1
      have hfn := hx y (List.mem_of_getElem? hy)
      have ht : ((A.map Exp.lev).take (k + 1)).foldl max 0 = max (((A.map Exp.lev).take k).foldl max 0) y.lev := by
        rw [List.take_add_one, List.getElem?_map, hy]
        simp
      have hb := hlb (k + 1)
      rw [ht] at hb
      have hb0 := (foldl_max_mem ((A.map Exp.lev).take k) 0).1
      generalize hM : ((A.map Exp.lev).take k).foldl max 0 = M at *
      have hyp := y.lev_pos
      repeat' (first
    | (refine H_cons ?_; simp [hy, Exp.row_eq])
    | (refine H_nil ?_; simp [hy, Exp.row_eq])
    | (refine ⟨by omega, ?_⟩)
    | (refine V_sseq ?_; simp [hy, Exp.row_eq])
    | (refine V_sregion ?_; simp [hy, Exp.row_eq])
    | (refine V_skip ?_; simp only [RunK])
    | (refine ⟨?_, by omega⟩)
    | (intro hc <;> (try (exfalso; omega)))
    | (refine CallP.fun_ (hfn) (by first | rfl | fail) (by first | assumption | (simp; done) | fail) (by first | (simp [hy, Exp.row_eq]; done) | (simp [hy, Exp.row_eq]; rfl) | fail) (by first | (simp; done) | fail) (fun d hd => ?_); subst hd; (try simp [hy, Exp.row_eq]))
    | fail)
      refine LoopW.next ⟨k + 1, hlt⟩ (by show A.length - (k + 1) < A.length - k; omega) ?_
      exact (Wk.cut rfl (by simp [hn, St.lp]) (by simp [wkO, St.lp, getK_cons, getK, Ob.under, D.under, under_rowsD, under_entD, ht]) (by simp [wkU, St.lp, keepE, getK_cons, getK, D.under, ht]) (by simp [wkE, St.lp, keepE, getK_cons, getK, ht] <;> (try (intros; simp_all; done)) <;> (try (intros; omega)) <;> (try grind)))
end Go.Proofs.YtfcopibncpkdoaaDoor
namespace Go.Proofs.YtfcopibncpkdoaaDoor
open Go Go.VL
attribute [local simp] HS hcons hstep evPure opd uOf putOK St.put St.at getK binD binI binS binB nilD aggD eqUs cmpK lookD lookR rangeD nextD entryD keyD valU keyU lookK mkV entD_nil lookK_entD updK_entD1 updK_entD3 allUE allUE_entD makeMapD mapUpdD mapEff updK valM Key.kk shiftI arith unD convD pickD loadD cellsAt fieldAddrD fieldD indexAddrD indexD sliceD cutD lenD minmaxD nilCheckD buildD fillD cellsD isOne ones setAll mkAgg allU allocD boxD storeD St.add buildSliceD appendD rowsOf makeD setOb getK_setOb getK_del getK_cons stripL strip guardTmp entry chunks zcells valD argsV argsW argW argU1 argU0 argsU0 argsU1 calleeOf scalarD scalarU delAll effD St.effS RK_seq RK_seq_ret RK_seq_exit RK_blk RK_blk_ret RK_blk_exit RK_loop RK_loop_ret RK_loop_exit RK_done vs_seq vs_block vs_cond vs_region vs_loop vs_draw applyW mkD rdIds lentIds callOf calleeOf freeOp D.ids Op.operands Call.operands isEffOp makeIfD typeAssertD conc concs conc1 uOfV panicD IntKind.bits allU2 allU2_append List.take_of_length_le List.range_succ
attribute [local irreducible] V G H HD HD2 HD4 HD4h RetX RunK Eff CallP CallV EndOK Fun Ret FinOK LoopI LoopW EndW
theorem open_ok (s : List UInt8) (l : List Tok) (nx : Nat) (h : lexL s = .ok l) :
    RetX Tryd.prog 38 [.u (.str s)] [] nx (fun r o n => r = .val (.tup [.ptr nx 0, .u (.int .i64 0), .u (.int .i64 0)]) ∧ o = [(nx, pOb l 0)] ∧ n = nx + 1) := by
  have h1 := lex_fun s
  rw [h] at h1
  simp only [lexOut] at h1
  (refine RetX.of_bodyW Tryd.func38 rfl (by simp) fun Γ hn hpan => ?_); simp only [entry, List.zipIdx_cons, List.zipIdx_nil, List.map_cons, List.map_nil, Nat.zero_add, Tryd.ntmps38]
  repeat' (first
    | (refine H_cons ?_; simp)
    | (refine H_nil ?_; simp)
    | (refine V_sseq ?_; simp)
    | (refine V_ret ?_; simp only [RunK])
    | (refine CallP.fun_ (h1) (by first | rfl | fail) (by first | assumption | (simp; done) | fail) (by first | (simp; done) | (simp; rfl) | fail) (by first | (simp; done) | fail) (fun d hd => ?_); subst hd; (try simp))
    | fail)
  (refine EndW.here ?_; (first | (refine EndOK.fin (.inr rfl) ?_) | (refine EndOK.fin (.inl rfl) ?_)); simp [resD, oneOrTup, Tryd.results38]; refine FinOK.here (by simp) ?_; try simp)
theorem open_err (s : List UInt8) (p : Nat) (e : Int) (nx : Nat) (h : lexL s = .error (p, e)) :
    RetX Tryd.prog 38 [.u (.str s)] [] nx (fun r o n => r = .val (.tup [.ptr nx 0, .u (.int .i64 p), .u (.int .i64 e)]) ∧ o = [(nx, pOb [] 0)] ∧ n = nx + 1) := by
  have h1 := lex_fun s
  rw [h] at h1
  simp only [lexOut] at h1
  (refine RetX.of_bodyW Tryd.func38 rfl (by simp) fun Γ hn hpan => ?_); simp only [entry, List.zipIdx_cons, List.zipIdx_nil, List.map_cons, List.map_nil, Nat.zero_add, Tryd.ntmps38]
  repeat' (first
    | (refine H_cons ?_; simp)
    | (refine H_nil ?_; simp)
    | (refine V_sseq ?_; simp)
    | (refine V_ret ?_; simp only [RunK])
    | (refine CallP.fun_ (h1) (by first | rfl | fail) (by first | assumption | (simp; done) | fail) (by first | (simp; done) | (simp; rfl) | fail) (by first | (simp; done) | fail) (fun d hd => ?_); subst hd; (try simp))
    | fail)
  (refine EndW.here ?_; (first | (refine EndOK.fin (.inr rfl) ?_) | (refine EndOK.fin (.inl rfl) ?_)); simp [resD, oneOrTup, Tryd.results38]; refine FinOK.here (by simp) ?_; try simp)
theorem caught_none (i j nx : Nat) (hi : i < nx) (hj : j < nx) (hij : i ≠ j) (p e : Int) :
    RetX Tryd.prog 40 [.u (.oth .nilIface), .ptr i 0, .ptr j 0] [(i, .box [.u (.int .i64 p)]), (j, .box [.u (.int .i64 e)])] nx
      (fun r o n => r = .val (.u (.bool false)) ∧ o = [(i, .box [.u (.int .i64 p)]), (j, .box [.u (.int .i64 e)])] ∧ n = nx) := by
  have hne := ne_facts hi
  have hne2 := ne_facts hj
  (refine RetX.of_bodyW Tryd.func40 rfl (by simp) fun Γ hn hpan => ?_); simp only [entry, List.zipIdx_cons, List.zipIdx_nil, List.map_cons, List.map_nil, Nat.zero_add, Tryd.ntmps40]
  repeat' (first
    | (refine H_cons ?_; simp [hne, hne2, hij, Ne.symm hij])
    | (refine H_nil ?_; simp [hne, hne2, hij, Ne.symm hij])
    | (refine V_sseq ?_; simp [hne, hne2, hij, Ne.symm hij])
    | fail)
  refine ⟨[.int .i64 0, .int .i64 0], rfl, ?_⟩
  repeat' (first
    | (refine H_cons ?_; simp [hne, hne2, hij, Ne.symm hij])
    | (refine H_nil ?_; simp [hne, hne2, hij, Ne.symm hij])
    | (refine V_sseq ?_; simp [hne, hne2, hij, Ne.symm hij])
    | (refine V_scond ?_; simp [hne, hne2, hij, Ne.symm hij])
    | (refine V_ret ?_; simp only [RunK])
    | (refine V_skip ?_; simp only [RunK])
    | fail)
  (refine EndW.here ?_; (first | (refine EndOK.fin (.inr rfl) ?_) | (refine EndOK.fin (.inl rfl) ?_)); simp [resD, oneOrTup, Tryd.results40, hne, hne2, hij, Ne.symm hij, hi, hj]; refine FinOK.cut [(i, .box [.u (.int .i64 p)]), (j, .box [.u (.int .i64 e)])] (nx) (by simp [getK_cons, getK, getK_append, getK_del, Ob.under, D.under, under_rowsD, under_entD, hne, hne2, hij, Ne.symm hij, hi, hj] <;> omega) (by simp [D.under]) (by simp [hn]) ?_; try simp)
theorem caught_stop (i j nx : Nat) (hi : i < nx) (hj : j < nx) (hij : i ≠ j) (p e pos err : Int) :
    RetX Tryd.prog 40 [.u (.oth (.iface 119 (.agg #[.int .i64 pos, .int .i64 err]))), .ptr i 0, .ptr j 0] [(i, .box [.u (.int .i64 p)]), (j, .box [.u (.int .i64 e)])] nx
      (fun r o n => r = .val (.u (.bool true)) ∧ o = [(i, .box [.u (.int .i64 pos)]), (j, .box [.u (.int .i64 err)])] ∧ n = nx) := by
  have hne := ne_facts hi
  have hne2 := ne_facts hj
  (refine RetX.of_bodyW Tryd.func40 rfl (by simp) fun Γ hn hpan => ?_); simp only [entry, List.zipIdx_cons, List.zipIdx_nil, List.map_cons, List.map_nil, Nat.zero_add, Tryd.ntmps40]
  repeat' (first
    | (refine H_cons ?_; simp [hne, hne2, hij, Ne.symm hij])
    | (refine HD4_val rfl ?_; simp [hne, hne2, hij, Ne.symm hij])
    | (refine HD4_chg rfl ?_; simp [hne, hne2, hij, Ne.symm hij])
    | (refine H_nil ?_; simp [hne, hne2, hij, Ne.symm hij])
    | (refine V_sseq ?_; simp [hne, hne2, hij, Ne.symm hij])
    | (refine V_scond ?_; simp [hne, hne2, hij, Ne.symm hij])
    | (refine HD4_nil (hC _ (okP4_ren [i, j] nx (by simp <;> omega) (by simp <;> omega) (by apply Exists.intro; apply And.intro; (focus (repeat' (first | exact KF.nil | exact KL.nil | apply KF.cons | apply KL.cons 0 rfl | apply KL.cons 1 rfl | apply KL.cons 2 rfl | apply KL.cons 3 rfl | apply KL.cons 4 rfl | apply KL.cons 5 rfl | apply KL.cons 6 rfl | apply KL.cons 7 rfl | apply KL.cons 8 rfl | apply KL.cons 9 rfl))); kernel_rfl))) (hk _ ?_); clear hC hk C k; simp only [RunK])
    | (refine V_drawX rfl (by kernel_rfl) (by first | (simp [hn]; done) | (simp [hn]; omega) | fail) fun C k hC hk => ?_; simp [hne, hne2, hij, Ne.symm hij])
    | (refine V_ret ?_; simp only [RunK])
    | (refine V_skip ?_; simp only [RunK])
    | fail)
  (refine EndW.here ?_; (first | (refine EndOK.fin (.inr rfl) ?_) | (refine EndOK.fin (.inl rfl) ?_)); simp [resD, oneOrTup, Tryd.results40, hne, hne2, hij, Ne.symm hij, hi, hj]; refine FinOK.cut [(i, .box [.u (.int .i64 pos)]), (j, .box [.u (.int .i64 err)])] (nx) (by simp [getK_cons, getK, getK_append, getK_del, Ob.under, D.under, under_rowsD, under_entD, hne, hne2, hij, Ne.symm hij, hi, hj] <;> omega) (by simp [D.under]) (by simp [hn]) ?_; try simp)

theorem pdef_ret (i j q nx : Nat) (hi : i < nx) (hj : j < nx) (hq : q < nx) (hij : i ≠ j) (hiq : i ≠ q) (hjq : j ≠ q) (p e : Int) (cells : List U) :
    RetDf Tryd.prog 39 [.ptr i 0, .ptr j 0, .ptr q 0] [(i, .box [.u (.int .i64 p)]), (j, .box [.u (.int .i64 e)]), (q, .box (cells.map .u))] nx .returning
      (fun u o n => settle u = .returning ∧ n = nx ∧ o = [(i, .box [.u (.int .i64 p)]), (j, .box [.u (.int .i64 e)]), (q, .box (cells.map .u))]) := by
  have hne := ne_facts hi
  have hne2 := ne_facts hj
  have hne3 := ne_facts hq
  have hc0 := caught_none i j nx hi hj hij p e
  refine RetDf.of_body Tryd.func39 rfl (by simp) (by simp) rfl fun Γ hn => ?_
  simp [entry, recU, Tryd.ntmps39]
  refine CallP.x2 hc0 (by simp [getK]) (by simp [getK, hij, Ne.symm hij]) hij rfl rfl (by simp) (by simp) (fun d o1 nx' hnx h => ?_) (fun ch o1 nx' hnx h => by cases h.1)
  obtain ⟨h1, rfl, h4⟩ := h
  have h4 := h4.symm
  subst h4
  cases h1
  simp [del, hij, Ne.symm hij, hiq, hjq, Ne.symm hiq, Ne.symm hjq]
  repeat' (first
    | (refine V_scond ?_; simp [hij, hiq, hjq])
    | (refine V_skip ?_; simp only [RunK])
    | fail)
  (refine ⟨by simp, { n := _, env := [], obs := [(i, .box [.u (.int .i64 p)]), (j, .box [.u (.int .i64 e)]), (q, .box (cells.map .u))], next := nx }, (Wk.cut rfl (by simp [hn]) (by simp [wkO, getK_cons, getK, getK_append, getK_del, Ob.under, D.under, under_rowsD, under_entD, hi, hj, hq, hne, hne2, hne3, hij, hiq, hjq, Ne.symm hij, Ne.symm hiq, Ne.symm hjq]) (by simp [wkU, keepE, getK_cons, getK, D.under, hi, hj, hq, hne, hne2, hne3, hij, hiq, hjq, Ne.symm hij, Ne.symm hiq, Ne.symm hjq]) (by simp [wkE, keepE, getK_cons, getK, hi, hj, hq, hne, hne2, hne3, hij, hiq, hjq, Ne.symm hij, Ne.symm hiq, Ne.symm hjq])), by simp [hn], ?_⟩; try simp)
  all_goals rfl
end Go.Proofs.YtfcopibncpkdoaaDoor
