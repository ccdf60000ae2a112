/- Texts joined by a program of mine: Es Et Fi Fp Fj Fq Fn Fr. -/
import Derived.Test.YtfcopibncpkdoaaDoorK5
set_option linter.all false
set_option maxRecDepth 100000
set_option maxHeartbeats 8000000
namespace Go.Proofs.YtfcopibncpkdoaaDoor
open Go Go.VL
attribute [local simp] HS hcons hstep evPure opd uOf putOK St.put St.at getK binD binI binS binB nilD aggD eqUs cmpK lookD lookR rangeD nextD entryD keyD valU keyU lookK mkV entD_nil lookK_entD updK_entD1 updK_entD3 allUE allUE_entD makeMapD mapUpdD mapEff updK valM Key.kk shiftI arith unD convD pickD loadD cellsAt fieldAddrD fieldD indexAddrD indexD sliceD cutD lenD minmaxD nilCheckD buildD fillD cellsD isOne ones setAll mkAgg allU allocD boxD storeD St.add buildSliceD appendD rowsOf makeD setOb getK_setOb getK_del getK_cons stripL strip guardTmp entry chunks zcells valD argsV argsW argW argU1 argU0 argsU0 argsU1 calleeOf scalarD scalarU delAll effD St.effS RK_seq RK_seq_ret RK_seq_exit RK_blk RK_blk_ret RK_blk_exit RK_loop RK_loop_ret RK_loop_exit RK_done vs_seq vs_block vs_cond vs_region vs_loop vs_draw applyW mkD rdIds lentIds callOf calleeOf freeOp D.ids Op.operands Call.operands isEffOp makeIfD typeAssertD conc concs conc1 uOfV panicD IntKind.bits allU2 List.take_of_length_le List.range_succ
attribute [local irreducible] V G H HD HD2 HD4 HD4h RetX RunK Eff CallP CallV EndOK Fun Ret FinOK LoopI LoopW EndW
abbrev expOb0 : Ob := .box [.u (.int .i64 0), .u (.int .i64 0), .u (.int .i64 0), .u (.str []), .u .nil]
theorem pdef_pan (i j q nx : Nat) (hi : i < nx) (hj : j < nx) (hq : q < nx) (hij : i ≠ j) (hiq : i ≠ q) (hjq : j ≠ q) (p e pos err : Int) (a b c : Int) (t : List UInt8) (g : U) :
    RetDf Tryd.prog 39 [.ptr i 0, .ptr j 0, .ptr q 0] [(i, .box [.u (.int .i64 p)]), (j, .box [.u (.int .i64 e)]), (q, .box [.u (.int .i64 a), .u (.int .i64 b), .u (.int .i64 c), .u (.str t), .u g])] nx (.panicking (chP pos err))
      (fun u o n => settle u = .returning ∧ n = nx ∧ o = [(i, .box [.u (.int .i64 pos)]), (j, .box [.u (.int .i64 err)]), (q, expOb0)]) := by
  have hne := ne_facts hi
  have hne2 := ne_facts hj
  have hne3 := ne_facts hq
  have hc0 := caught_stop i j nx hi hj hij p e pos err
  refine RetDf.of_body Tryd.func39 rfl (by simp) (by simp) rfl fun Γ hn => ?_
  simp [entry, recU, chP, Tryd.ntmps39]
  refine CallP.x2 hc0 (by simp [getK]) (by simp [getK, hij, Ne.symm hij]) hij rfl rfl (by simp) (by simp) (fun d o1 nx' hnx h => ?_) (fun ch o1 nx' hnx h => by cases h.1)
  obtain ⟨h1, rfl, h4⟩ := h
  have h4 := h4.symm
  subst h4
  cases h1
  simp [del, hij, Ne.symm hij, hiq, hjq, Ne.symm hiq, Ne.symm hjq]
  repeat' (first
    | (refine H_cons ?_; simp [hij, hiq, hjq])
    | (refine H_nil ?_; simp [hij, hiq, hjq])
    | (refine V_scond ?_; simp [hij, hiq, hjq])
    | (refine V_sregion ?_; simp [hij, hiq, hjq])
    | fail)
  (refine ⟨by simp, { n := _, env := [], obs := [(i, .box [.u (.int .i64 pos)]), (j, .box [.u (.int .i64 err)]), (q, expOb0)], next := nx }, (Wk.cut rfl (by simp [hn]) (by simp [wkO, getK_cons, getK, getK_append, getK_del, Ob.under, D.under, under_rowsD, under_entD, hi, hj, hq, hne, hne2, hne3, hij, hiq, hjq, Ne.symm hij, Ne.symm hiq, Ne.symm hjq]) (by simp [wkU, keepE, getK_cons, getK, D.under, hi, hj, hq, hne, hne2, hne3, hij, hiq, hjq, Ne.symm hij, Ne.symm hiq, Ne.symm hjq]) (by simp [wkE, keepE, getK_cons, getK, hi, hj, hq, hne, hne2, hne3, hij, hiq, hjq, Ne.symm hij, Ne.symm hiq, Ne.symm hjq])), by simp [hn], ?_⟩; try simp)
  all_goals rfl
theorem lexF_ok {s : List UInt8} : ∀ (f p : Nat) (l : List Tok), lexF f s p = .ok l → s.length < p + f → p ≤ s.length →
    (∀ (i : Nat) (t : Tok), l[i]? = some t → t.kind ≠ 0 → i + 1 < l.length) ∧ l.length ≤ s.length - p + 1 ∧ 0 < l.length
  | 0, p, l, _, h2, h3 => by omega
  | f + 1, p, l, h, h2, h3 => by
    rw [lexF] at h
    have hle := spanL_le isBlank (s.drop p)
    rw [List.length_drop] at hle
    split at h
    · cases h
      refine ⟨fun i t hi hk => ?_, by simp, by simp⟩
      rcases i with _ | i
      · simp at hi
        subst hi
        exact absurd rfl hk
      · simp at hi
    · rename_i c r hd
      have hdl : (s.drop (p + spanL isBlank (s.drop p))).length = r.length + 1 := by rw [hd]; rfl
      rw [List.length_drop] at hdl
      split at h
      · cases h
      · rename_i t ht
        obtain ⟨ht1, ht2⟩ := nextO_text ht
        simp only [List.length_cons] at ht2
        split at h
        · cases h
        · rename_i l' hl'
          cases h
          obtain ⟨g1, g2, g3⟩ := lexF_ok f _ l' hl' (by omega) (by omega)
          refine ⟨fun i t' hi hk => ?_, by simp only [List.length_cons]; omega, by simp⟩
          rcases i with _ | i
          · simp; exact g3
          · simp only [List.getElem?_cons_succ] at hi
            have := g1 i t' hi hk
            simp only [List.length_cons]
            omega
theorem lexL_ok {s : List UInt8} {l : List Tok} (h : lexL s = .ok l) : TokOK l ∧ l.length ≤ 2001 ∧ 0 < l.length := by
  unfold lexL at h
  split at h
  · cases h
  · obtain ⟨g1, g2, g3⟩ := lexF_ok _ _ _ h (by omega) (by omega)
    exact ⟨⟨g1, by omega⟩, by omega, g3⟩
theorem Exp.lev_mk {op n u : Int} {s : List UInt8} {args : List Exp} {B : Int} (h : ∀ x ∈ args, x.lev ≤ B) (h0 : 0 ≤ B) : (Exp.mk op n u s args).lev ≤ B + 1 := by
  rw [Exp.lev_eq]
  simp only [Exp.args]
  have : ∀ (l : List Int) (a : Int), a ≤ B → (∀ x ∈ l, x ≤ B) → l.foldl max a ≤ B := by
    intro l
    induction l with
    | nil => intro a ha _; exact ha
    | cons b l ih => intro a ha hl; exact ih _ (by have := hl b (by simp); omega) fun x hx => hl x (by simp [hx])
  have := this (args.map Exp.lev) 0 h0 (fun x hx => by obtain ⟨y, hy, rfl⟩ := List.mem_map.1 hx; exact h y hy)
  omega
theorem parse_lev {l : List Tok} : ∀ (f : Nat),
    (∀ p form e q, expP l f p form = .ok e q → e.lev ≤ f * f + 1) ∧
    (∀ form e own p e' q, loopP l f form e own p = .ok e' q → e'.lev ≤ max e.lev (f * f + 1) + f) ∧
    (∀ p form e q, prefixP l f p form = .ok e q → e.1.lev ≤ f * f + 1) ∧
    (∀ p e q, primaryP l f p = .ok e q → e.lev ≤ f * f + 1)
  | 0 => ⟨fun _ _ _ _ h => by simp [expP] at h, fun _ _ _ _ _ _ h => by simp [loopP] at h, fun _ _ _ _ h => by simp [prefixP] at h, fun _ _ _ h => by simp [primaryP] at h⟩
  | f + 1 => by
    obtain ⟨he, hlo, hpr, hpm⟩ := parse_lev f
    have hsq : ((f + 1 : Nat) : Int) * ((f + 1 : Nat) : Int) = (f : Int) * f + 2 * f + 1 := by
      rw [show ((f + 1 : Nat) : Int) = (f : Int) + 1 by omega, Int.add_mul, Int.mul_add]; omega
    rw [hsq]
    have h0 : (0 : Int) ≤ (f : Int) * f := Int.mul_nonneg (by omega) (by omega)
    generalize hF : (f : Int) * f = F at *
    refine ⟨fun p form e q h => ?_, fun form e own p e' q h => ?_, fun p form e q h => ?_, fun p e q h => ?_⟩
    · rw [expP] at h
      obtain ⟨a, r, h1, h2⟩ := PR.bind_out h
      have g1 := hpr _ _ _ _ h1
      have g2 := hlo _ _ _ _ _ _ h2
      omega
    · rw [loopP] at h
      split at h
      · cases h; omega
      · split at h
        · cases h; omega
        · obtain ⟨a, r, h1, h2⟩ := PR.bind_out h
          have g1 := he _ _ _ _ h1
          have g2 := hlo _ _ _ _ _ _ h2
          rename_i x _ _
          have g3 := Exp.lev_mk (op := x.op) (n := 0) (u := 0) (s := []) (args := [e, a]) (B := max e.lev (F + 1)) (by
            intro y hy
            simp only [List.mem_cons, List.not_mem_nil, or_false] at hy
            rcases hy with rfl | rfl <;> omega) (by omega)
          omega
    · rw [prefixP] at h
      split at h
      · obtain ⟨a, r, h1, h⟩ := PR.bind_out h
        obtain ⟨_, r2, h2, h⟩ := PR.bind_out h
        obtain ⟨b, r3, h3, h⟩ := PR.bind_out h
        obtain ⟨_, r4, h4, h⟩ := PR.bind_out h
        obtain ⟨c, r5, h5, h⟩ := PR.bind_out h
        cases h
        have g1 := he _ _ _ _ h1
        have g3 := he _ _ _ _ h3
        have g5 := he _ _ _ _ h5
        have := Exp.lev_mk (op := 13) (n := 0) (u := 0) (s := []) (args := [a, b, c]) (B := F + 1) (by
          intro y hy
          simp only [List.mem_cons, List.not_mem_nil, or_false] at hy
          rcases hy with rfl | rfl | rfl <;> omega) (by omega)
        simp only
        omega
      · split at h
        · obtain ⟨a, r, h1, h⟩ := PR.bind_out h
          cases h
          have g1 := he _ _ _ _ h1
          have := Exp.lev_mk (op := 12) (n := 0) (u := 0) (s := []) (args := [a]) (B := F + 1) (by
            intro y hy
            simp only [List.mem_cons, List.not_mem_nil, or_false] at hy
            rcases hy with rfl; omega) (by omega)
          simp only
          omega
        · obtain ⟨a, r, h1, h⟩ := PR.bind_out h
          cases h
          have g1 := hpm _ _ _ h1
          simp only
          omega
    · have leaf : ∀ (op n u : Int) (s : List UInt8), (Exp.mk op n u s []).lev ≤ F + 2 * f + 1 + 1 := fun op n u s => by
        have := Exp.lev_mk (op := op) (n := n) (u := u) (s := s) (args := []) (B := 0) (by simp) (by omega)
        omega
      rw [primaryP] at h
      split at h
      · cases h
      · split at h
        · obtain ⟨a, r, h1, h⟩ := PR.bind_out h
          cases h; exact leaf ..
        split at h
        · cases h; exact leaf ..
        split at h
        · cases h; exact leaf ..
        split at h
        · obtain ⟨_, r2, h2, h⟩ := PR.bind_out h
          obtain ⟨a, r3, h3, h⟩ := PR.bind_out h
          obtain ⟨_, r4, h4, h⟩ := PR.bind_out h
          obtain ⟨b, r5, h5, h⟩ := PR.bind_out h
          obtain ⟨_, r6, h6, h⟩ := PR.bind_out h
          have g3 := he _ _ _ _ h3
          have g5 := he _ _ _ _ h5
          have := Exp.lev_mk (op := if isB l p [109, 97, 120] = true then 7 else 6) (n := 0) (u := 0) (s := []) (args := [a, b]) (B := F + 1) (by
            intro y hy
            simp only [List.mem_cons, List.not_mem_nil, or_false] at hy
            rcases hy with rfl | rfl <;> omega) (by omega)
          cases h
          omega
        split at h
        · obtain ⟨a, r3, h3, h⟩ := PR.bind_out h
          obtain ⟨_, r4, h4, h⟩ := PR.bind_out h
          cases h
          have g3 := he _ _ _ _ h3
          omega
        split at h
        · cases h; exact leaf ..
        · cases h
def kindAt (l : List Tok) (p : Nat) : Int := match l[p]? with | some t => t.kind | none => 0
def zeroE : Exp := .mk 0 0 0 [] []
/-- What ParseExp returns: the expression, the place, the error. -/
def parseX (s : List UInt8) : Exp × Int × Int := match lexL s with
  | .error (p, e) => (zeroE, p, e)
  | .ok l => match expP l (4 * l.length + 3) 0 0 with
    | .stop pos e => (zeroE, pos, e)
    | .ok y q => if kindAt l q ≠ 0 then (zeroE, posAt l q, 12) else if 12 < y.lev then (zeroE, posAt l q, 6) else (y, 0, 0)

theorem nextO_err {c : UInt8} {r : List UInt8} {e : Int} (h : nextO (c :: r) = .error e) : e ≠ 0 := by
  unfold nextO at h
  simp only at h
  split at h
  · split at h <;> cases h
    omega
  · split at h
    · split at h <;> cases h
      omega
    · split at h <;> cases h
      omega
theorem lexF_err {s : List UInt8} : ∀ (f p : Nat) (q : Nat) (e : Int), lexF f s p = .error (q, e) → p ≤ s.length → e ≠ 0 ∧ q ≤ s.length
  | 0, p, q, e, h, _ => by simp [lexF] at h
  | f + 1, p, q, e, h, h3 => by
    rw [lexF] at h
    have hle := spanL_le isBlank (s.drop p)
    rw [List.length_drop] at hle
    split at h
    · cases h
    · rename_i c r hd
      have hdl : (s.drop (p + spanL isBlank (s.drop p))).length = r.length + 1 := by rw [hd]; rfl
      rw [List.length_drop] at hdl
      split at h
      · rename_i ht
        cases h
        exact ⟨nextO_err ht, by omega⟩
      · rename_i t ht
        obtain ⟨ht1, ht2⟩ := nextO_text ht
        simp only [List.length_cons] at ht2
        split at h
        · rename_i x hx
          cases h
          exact lexF_err f _ q e hx (by omega)
        · cases h
theorem lexL_err {s : List UInt8} {q : Nat} {e : Int} (h : lexL s = .error (q, e)) : e ≠ 0 ∧ q ≤ s.length := by
  unfold lexL at h
  split at h
  · cases h; exact ⟨by decide, by omega⟩
  · exact lexF_err _ _ _ _ h (by omega)
def xOut (r : Exp × Int × Int) : D := .tup [.u (.agg r.1.row), .u (.int .i64 r.2.1), .u (.int .i64 r.2.2)]
theorem parseExp_ret (s : List UInt8) : RetX Tryd.prog 24 [.u (.str s)] [] 0 (fun r o n => r = .val (xOut (parseX s))) := by
  unfold parseX
  cases hlx : lexL s with
  | error pe =>
    obtain ⟨p, e⟩ := pe
    have ho := fun nx => open_err s p e nx hlx
    have he := (lexL_err hlx).1
    simp only
    (refine RetX.of_bodyD Tryd.func24 rfl (by simp) fun Γ hn hdfr hpan hesc => ?_); simp only [entry, List.zipIdx_cons, List.zipIdx_nil, List.map_cons, List.map_nil, Nat.zero_add, Tryd.ntmps24]
    repeat' (first
    | (refine H_cons ?_; simp [he])
    | (refine HD4_val rfl ?_; simp [he])
    | (refine HD4_chg rfl ?_; simp [he])
    | (refine H_nil ?_; simp [he])
    | (refine V_sseq ?_; simp [he])
    | (refine V_scond ?_; simp [he])
    | (refine HD4_nil (hC _ (by kernel_rfl)) (hk _ ?_); clear hC hk C k; simp only [RunK])
    | (refine V_drawX rfl (by kernel_rfl) (by first | (simp [hn]; done) | (simp [hn]; omega) | fail) fun C k hC hk => ?_; simp [he])
    | (refine V_ret ?_; simp only [RunK])
    | (refine CallP.okL (ho _) (by first | (simp [he, getK_cons, getK, getK_append, getK_del, getK_setOb, applyW, del]; done) | fail) (by rfl) (by first | assumption | (simp; done) | fail) (by rfl) (by simp) ?_; (try simp [he, delL, del]))
    | fail)
    refine EndW.norm ?_
    simp [St.norm, normOb, normD, normU, norm1]
    (refine EndW.here ?_; (first | (refine EndOK.fin (.inr rfl) ?_) | (refine EndOK.fin (.inl rfl) ?_)); simp [resD, oneOrTup, Tryd.results24]; refine FinOK.here (by simp) ?_; try simp)
    simp [xOut, Exp.row, zeroE]
  | ok l =>
    obtain ⟨hl, hl2, hl0⟩ := lexL_ok hlx
    have ho := fun nx => open_ok s l nx hlx
    have hE := (parse_all hl (4 * l.length + 3)).1 0 0 3 4 (by omega) hl0 (by omega) (by omega) (by omega)
    simp only
    cases hr : expP l (4 * l.length + 3) 0 0 with
    | stop pos e =>
      simp only [hr] at hE ⊢
      (refine RetX.of_bodyD Tryd.func24 rfl (by simp) fun Γ hn hdfr hpan hesc => ?_); simp only [entry, List.zipIdx_cons, List.zipIdx_nil, List.map_cons, List.map_nil, Nat.zero_add, Tryd.ntmps24]
      rw [hold_defer]
      repeat' (first
    | (refine H_cons ?_; simp)
    | (refine H_nil ?_; simp)
    | (refine V_sseq ?_; simp)
    | (refine V_scond ?_; simp)
    | (refine V_skip ?_; simp only [RunK])
    | (refine CallP.okL (ho _) (by first | (simp [getK_cons, getK, getK_append, getK_del, getK_setOb, applyW, del]; done) | fail) (by rfl) (by first | assumption | (simp; done) | fail) (by rfl) (by simp) ?_; (try simp [delL, del]))
    | fail)
      refine V_defer hesc hdfr rfl (by simp) ?_
      have hn0 := hn
      have hpan0 := hpan
      intro Γ' hn hpan
      simp
      repeat' (first
    | (refine H_cons ?_; simp)
    | (refine V_sseq ?_; simp)
    | (refine CallP.pan1 (hE) (by first | (simp [getK_cons, getK, getK_append, getK_del]; done) | fail) (by rfl) (by first | assumption | (simp; done) | fail) (by rfl) (by simp) ?_; rintro ob' ⟨q', rfl⟩; refine ⟨_, Wk.refl _, ?_⟩)
    | fail)
      refine hpan _ _ ?_
      refine LeaveD.of [(1, .box [.u (.int .i64 0)]), (2, .box [.u (.int .i64 0)]), (0, expOb0)] (by simp [getK_cons, getK, getK_append, getK_del]) (pdef_pan 1 2 0 _ (by simp) (by simp) (by simp) (by decide) (by decide) (by decide) 0 0 _ _ 0 0 0 [] .nil) ?_
      simp only [show Γ.base.n0 = 0 from hn0]
      simp [delL, del]
      refine EndW.norm ?_
      simp [St.norm, normOb, normD, normU, norm1]
      (refine EndW.here ?_; (first | (refine EndOK.fin (.inr rfl) ?_) | (refine EndOK.fin (.inl rfl) ?_)); simp [resD, oneOrTup, Tryd.results24]; refine FinOK.here (by simp) ?_; try simp)
      simp [xOut, Exp.row, zeroE]
    | ok y q =>
      have hEx := exp_ok hE hr
      obtain ⟨g0a, g0b⟩ := (parse_le hl _).1 _ _ _ _ hr hl0
      have hlev := (parse_lev (l := l) _).1 _ _ _ _ hr
      have hlev2 : y.lev ≤ 1000000000 := by
        have h1 : ((4 * l.length + 3 : Nat) : Int) * ((4 * l.length + 3 : Nat) : Int) ≤ 8007 * 8007 := Int.mul_le_mul (by omega) (by omega) (by omega) (by omega)
        omega
      have hlv := levels_all (SizeOf.sizeOf y) y (Nat.le_refl _) hlev2
      rw [Exp.row_eq] at hlv
      obtain ⟨t, ht⟩ : ∃ t, l[q]? = some t := ⟨_, List.getElem?_eq_getElem g0b⟩
      have hnx := pnext_fun l q t ht hl.len
      have hka : kindAt l q = t.kind := by unfold kindAt; rw [ht]
      have hpa : posAt l q = t.pos := by unfold posAt; rw [ht]
      simp only [hka, hpa]
      by_cases hk : t.kind = 0
      · have hc1 := fun nx (h : 3 < nx) => check_ok l q 12 3 nx h
        rw [if_neg (by simp [hk])]
        by_cases hv : 12 < y.lev
        · have hc2 := fun nx (h : 3 < nx) => check_pan l q t 6 3 nx h ht hl.len
          have hv2 : ¬ y.lev ≤ 12 := by omega
          rw [if_pos hv]
          (refine RetX.of_bodyD Tryd.func24 rfl (by simp) fun Γ hn hdfr hpan hesc => ?_); simp only [entry, List.zipIdx_cons, List.zipIdx_nil, List.map_cons, List.map_nil, Nat.zero_add, Tryd.ntmps24]
          rw [hold_defer]
          repeat' (first
    | (refine H_cons ?_; simp)
    | (refine H_nil ?_; simp)
    | (refine V_sseq ?_; simp)
    | (refine V_scond ?_; simp)
    | (refine V_skip ?_; simp only [RunK])
    | (refine CallP.okL (ho _) (by first | (simp [getK_cons, getK, getK_append, getK_del, getK_setOb, applyW, del]; done) | fail) (by rfl) (by first | assumption | (simp; done) | fail) (by rfl) (by simp) ?_; (try simp [delL, del]))
    | fail)
          refine V_defer hesc hdfr rfl (by simp) ?_
          have hn0 := hn
          have hpan0 := hpan
          intro Γ' hn hpan
          simp
          repeat' (first
    | (refine H_cons ?_; simp [hk, hv, hv2, del])
    | (refine H_nil ?_; simp [hk, hv, hv2, del])
    | (refine V_sseq ?_; simp [hk, hv, hv2, del])
    | (refine CallP.fun_ (hlv) (by first | rfl | fail) (by first | assumption | (simp; done) | fail) (by first | (simp [hk, hv, hv2, del]; done) | (simp [hk, hv, hv2, del]; rfl) | fail) (by first | (simp; done) | fail) (fun d hd => ?_); subst hd; (try simp [hk, hv, hv2, del]))
    | (refine CallP.fun_ (hnx) (by first | rfl | fail) (by first | assumption | (simp; done) | fail) (by first | (simp [hk, hv, hv2, del]; done) | (simp [hk, hv, hv2, del]; rfl) | fail) (by first | (simp; done) | fail) (fun d hd => ?_); subst hd; (try simp [hk, hv, hv2, del]))
    | (refine CallP.ok1 (hEx) (by first | (simp [hk, hv, hv2, del, getK_cons, getK, getK_append, getK_del]; done) | fail) (by rfl) (by first | assumption | (simp; done) | fail) (by rfl) (by simp) ?_; (try simp [hk, hv, hv2, del]))
    | (refine CallP.ok1 (hc1 _ (by simp)) (by first | (simp [hk, hv, hv2, del, getK_cons, getK, getK_append, getK_del]; done) | fail) (by rfl) (by first | assumption | (simp; done) | fail) (by rfl) (by simp) ?_; (try simp [hk, hv, hv2, del]))
    | (refine CallP.pan1 (hc2 _ (by simp)) (by first | (simp [hk, hv, hv2, del, getK_cons, getK, getK_append, getK_del]; done) | fail) (by rfl) (by first | assumption | (simp; done) | fail) (by rfl) (by simp) ?_; rintro ob' ⟨q', rfl⟩; refine ⟨_, Wk.refl _, ?_⟩)
    | fail)
          refine hpan _ _ ?_
          refine LeaveD.of [(1, .box [.u (.int .i64 0)]), (2, .box [.u (.int .i64 0)]), (0, expOb0)] (by simp [getK_cons, getK, getK_append, getK_del]) (pdef_pan 1 2 0 _ (by simp) (by simp) (by simp) (by decide) (by decide) (by decide) 0 0 _ _ 0 0 0 [] .nil) ?_
          simp only [show Γ.base.n0 = 0 from hn0]
          simp [delL, del]
          refine EndW.norm ?_
          simp [St.norm, normOb, normD, normU, norm1]
          (refine EndW.here ?_; (first | (refine EndOK.fin (.inr rfl) ?_) | (refine EndOK.fin (.inl rfl) ?_)); simp [resD, oneOrTup, Tryd.results24]; refine FinOK.here (by simp) ?_; try simp)
          simp [xOut, Exp.row, zeroE]
        · have hc2 := fun nx (h : 3 < nx) => check_ok l q 6 3 nx h
          have hv2 : y.lev ≤ 12 := by omega
          rw [if_neg hv]
          (refine RetX.of_bodyD Tryd.func24 rfl (by simp) fun Γ hn hdfr hpan hesc => ?_); simp only [entry, List.zipIdx_cons, List.zipIdx_nil, List.map_cons, List.map_nil, Nat.zero_add, Tryd.ntmps24]
          rw [hold_defer]
          repeat' (first
    | (refine H_cons ?_; simp)
    | (refine H_nil ?_; simp)
    | (refine V_sseq ?_; simp)
    | (refine V_scond ?_; simp)
    | (refine V_skip ?_; simp only [RunK])
    | (refine CallP.okL (ho _) (by first | (simp [getK_cons, getK, getK_append, getK_del, getK_setOb, applyW, del]; done) | fail) (by rfl) (by first | assumption | (simp; done) | fail) (by rfl) (by simp) ?_; (try simp [delL, del]))
    | fail)
          refine V_defer hesc hdfr rfl (by simp) ?_
          have hn0 := hn
          have hpan0 := hpan
          intro Γ' hn hpan
          simp
          repeat' (first
    | (refine H_cons ?_; simp [hk, hv, hv2, del])
    | (refine H_nil ?_; simp [hk, hv, hv2, del])
    | (refine V_sseq ?_; simp [hk, hv, hv2, del])
    | (refine V_ret ?_; simp only [RunK])
    | (refine CallP.fun_ (hlv) (by first | rfl | fail) (by first | assumption | (simp; done) | fail) (by first | (simp [hk, hv, hv2, del]; done) | (simp [hk, hv, hv2, del]; rfl) | fail) (by first | (simp; done) | fail) (fun d hd => ?_); subst hd; (try simp [hk, hv, hv2, del]))
    | (refine CallP.fun_ (hnx) (by first | rfl | fail) (by first | assumption | (simp; done) | fail) (by first | (simp [hk, hv, hv2, del]; done) | (simp [hk, hv, hv2, del]; rfl) | fail) (by first | (simp; done) | fail) (fun d hd => ?_); subst hd; (try simp [hk, hv, hv2, del]))
    | (refine CallP.ok1 (hEx) (by first | (simp [hk, hv, hv2, del, getK_cons, getK, getK_append, getK_del]; done) | fail) (by rfl) (by first | assumption | (simp; done) | fail) (by rfl) (by simp) ?_; (try simp [hk, hv, hv2, del]))
    | (refine CallP.ok1 (hc1 _ (by simp)) (by first | (simp [hk, hv, hv2, del, getK_cons, getK, getK_append, getK_del]; done) | fail) (by rfl) (by first | assumption | (simp; done) | fail) (by rfl) (by simp) ?_; (try simp [hk, hv, hv2, del]))
    | (refine CallP.ok1 (hc2 _ (by simp)) (by first | (simp [hk, hv, hv2, del, getK_cons, getK, getK_append, getK_del]; done) | fail) (by rfl) (by first | assumption | (simp; done) | fail) (by rfl) (by simp) ?_; (try simp [hk, hv, hv2, del]))
    | fail)
          refine ⟨rfl, ?_⟩
          refine LeaveD.of [(1, .box [.u (.int .i64 0)]), (2, .box [.u (.int .i64 0)]), (0, .box ([.int .i64 y.op, .int .i64 y.n, .int .i64 y.unit, .str y.s, .sl (y.args.map Exp.row)].map .u))] (by simp [getK_cons, getK, getK_append, getK_del]) (pdef_ret 1 2 0 _ (by simp) (by simp) (by simp) (by decide) (by decide) (by decide) 0 0 _) ?_
          simp only [show Γ.base.n0 = 0 from hn0]
          simp [delL, del]
          (refine EndW.here ?_; (first | (refine EndOK.fin (.inr rfl) ?_) | (refine EndOK.fin (.inl rfl) ?_)); simp [resD, oneOrTup, Tryd.results24]; refine FinOK.here (by simp) ?_; try simp)
          simp [xOut, Exp.row_eq]
      · have hc1 := fun nx (h : 3 < nx) => check_pan l q t 12 3 nx h ht hl.len
        rw [if_pos hk]
        (refine RetX.of_bodyD Tryd.func24 rfl (by simp) fun Γ hn hdfr hpan hesc => ?_); simp only [entry, List.zipIdx_cons, List.zipIdx_nil, List.map_cons, List.map_nil, Nat.zero_add, Tryd.ntmps24]
        rw [hold_defer]
        repeat' (first
    | (refine H_cons ?_; simp)
    | (refine H_nil ?_; simp)
    | (refine V_sseq ?_; simp)
    | (refine V_scond ?_; simp)
    | (refine V_skip ?_; simp only [RunK])
    | (refine CallP.okL (ho _) (by first | (simp [getK_cons, getK, getK_append, getK_del, getK_setOb, applyW, del]; done) | fail) (by rfl) (by first | assumption | (simp; done) | fail) (by rfl) (by simp) ?_; (try simp [delL, del]))
    | fail)
        refine V_defer hesc hdfr rfl (by simp) ?_
        have hn0 := hn
        have hpan0 := hpan
        intro Γ' hn hpan
        simp
        repeat' (first
    | (refine H_cons ?_; simp [hk, del])
    | (refine H_nil ?_; simp [hk, del])
    | (refine V_sseq ?_; simp [hk, del])
    | (refine CallP.fun_ (hnx) (by first | rfl | fail) (by first | assumption | (simp; done) | fail) (by first | (simp [hk, del]; done) | (simp [hk, del]; rfl) | fail) (by first | (simp; done) | fail) (fun d hd => ?_); subst hd; (try simp [hk, del]))
    | (refine CallP.ok1 (hEx) (by first | (simp [hk, del, getK_cons, getK, getK_append, getK_del]; done) | fail) (by rfl) (by first | assumption | (simp; done) | fail) (by rfl) (by simp) ?_; (try simp [hk, del]))
    | (refine CallP.pan1 (hc1 _ (by simp)) (by first | (simp [hk, del, getK_cons, getK, getK_append, getK_del]; done) | fail) (by rfl) (by first | assumption | (simp; done) | fail) (by rfl) (by simp) ?_; rintro ob' ⟨q', rfl⟩; refine ⟨_, Wk.refl _, ?_⟩)
    | fail)
        refine hpan _ _ ?_
        refine LeaveD.of [(1, .box [.u (.int .i64 0)]), (2, .box [.u (.int .i64 0)]), (0, expOb0)] (by simp [getK_cons, getK, getK_append, getK_del]) (pdef_pan 1 2 0 _ (by simp) (by simp) (by simp) (by decide) (by decide) (by decide) 0 0 _ _ 0 0 0 [] .nil) ?_
        simp only [show Γ.base.n0 = 0 from hn0]
        simp [delL, del]
        refine EndW.norm ?_
        simp [St.norm, normOb, normD, normU, norm1]
        (refine EndW.here ?_; (first | (refine EndOK.fin (.inr rfl) ?_) | (refine EndOK.fin (.inl rfl) ?_)); simp [resD, oneOrTup, Tryd.results24]; refine FinOK.here (by simp) ?_; try simp)
        simp [xOut, Exp.row, zeroE]
theorem parseExp_fun (s : List UInt8) : Fun Tryd.prog 24 [.u (.str s)] (· = .tup [eagg (parseX s).1, .u (.int .i64 (parseX s).2.1), .u (.int .i64 (parseX s).2.2)]) := by
  unfold Fun
  exact (parseExp_ret s).ret (fun d o n h => by
    cases h
    refine ⟨by simp [xOut, pureD], ?_⟩
    rw [xOut, Exp.row_eq]
    rfl) (fun ch o n h => by cases h)
end Go.Proofs.YtfcopibncpkdoaaDoor
namespace Go.Proofs.YtfcopibncpkdoaaDoor
open Go Go.VL
mutual
def levS : Exp → Int
  | .mk _ _ _ _ args => levsS args + 1
def levsS : List Exp → Int
  | [] => 0
  | e :: l => max (levS e) (levsS l)
end
theorem foldl_max_cons (l : List Int) (a : Int) (ha : 0 ≤ a) : l.foldl max a = max a (l.foldl max 0) := by
  induction l generalizing a with
  | nil => simp; omega
  | cons b l ih => simp only [List.foldl_cons]; rw [ih (max a b) (by omega), ih (max 0 b) (by omega)]; omega
mutual
theorem levS_eq : ∀ e : Exp, levS e = e.lev
  | .mk op n u s args => by rw [levS, Exp.lev_eq, levsS_eq]; rfl
theorem levsS_eq : ∀ l : List Exp, levsS l = (l.map Exp.lev).foldl max 0
  | [] => by rw [levsS]; rfl
  | e :: l => by
    have := e.lev_pos
    rw [levsS, levS_eq, levsS_eq, List.map_cons, List.foldl_cons, foldl_max_cons (l.map Exp.lev) (max 0 e.lev) (by omega)]
    omega
end
/-- The same az parseX, to be computed with. -/
def parseY (s : List UInt8) : Exp × Int × Int := match lexL s with
  | .error (p, e) => (zeroE, p, e)
  | .ok l => match expP l (4 * l.length + 3) 0 0 with
    | .stop pos e => (zeroE, pos, e)
    | .ok y q => if kindAt l q ≠ 0 then (zeroE, posAt l q, 12) else if 12 < levS y then (zeroE, posAt l q, 6) else (y, 0, 0)
theorem parseX_eq (s : List UInt8) : parseX s = parseY s := by
  unfold parseX parseY
  simp only [levS_eq]
  try rfl
def ofP (s : List UInt8) (vars : List Var) : Int × Int := if (parseY s).2.2 ≠ 0 then (-1, (parseY s).2.2) else valueP [] vars (parseY s).1
attribute [local simp] HS hcons hstep evPure opd uOf putOK St.put St.at getK binD binI binS binB nilD aggD eqUs cmpK lookD lookR rangeD nextD entryD keyD valU keyU lookK mkV entD_nil lookK_entD updK_entD1 updK_entD3 allUE allUE_entD makeMapD mapUpdD mapEff updK valM Key.kk shiftI arith unD convD pickD loadD cellsAt fieldAddrD fieldD indexAddrD indexD sliceD cutD lenD minmaxD nilCheckD buildD fillD cellsD isOne ones setAll mkAgg allU allocD boxD storeD St.add buildSliceD appendD rowsOf makeD setOb getK_setOb getK_del getK_cons stripL strip guardTmp entry chunks zcells valD argsV argsW argW argU1 argU0 argsU0 argsU1 calleeOf scalarD scalarU delAll effD St.effS RK_seq RK_seq_ret RK_seq_exit RK_blk RK_blk_ret RK_blk_exit RK_loop RK_loop_ret RK_loop_exit RK_done vs_seq vs_block vs_cond vs_region vs_loop vs_draw applyW mkD rdIds lentIds callOf calleeOf freeOp D.ids Op.operands Call.operands isEffOp makeIfD typeAssertD conc concs conc1 uOfV panicD IntKind.bits allU2 List.take_of_length_le List.range_succ
attribute [local irreducible] V G H HD HD2 HD4 HD4h RetX RunK Eff CallP CallV EndOK Fun Ret FinOK LoopI LoopW EndW
theorem of_fun (s : List UInt8) (vars : List Var) : Fun Tryd.prog 23 [.u (.str s), .u (varsU vars)] (· = .tup [.u (.int .i64 (ofP s vars).1), .u (.int .i64 (ofP s vars).2)]) := by
  have h1 := parseExp_fun s
  rw [parseX_eq] at h1
  have h2 := value_fun [] vars (parseY s).1
  unfold ofP
  generalize hr : parseY s = R at *
  obtain ⟨y, p, er⟩ := R
  simp only at *
  by_cases he : er = 0
  · subst he
    simp only [letsU, varsU, eagg, List.map_nil, ne_eq, not_true_eq_false, if_false] at h1 h2 ⊢
    generalize valueP [] vars y = V at h2 ⊢
    (refine Fun.of_bodyW Tryd.func23 rfl (by simp) fun Γ hn => ?_); simp only [entry, List.zipIdx_cons, List.zipIdx_nil, List.map_cons, List.map_nil, Nat.zero_add, Tryd.ntmps23]
    repeat' (first
    | (refine H_cons ?_; simp)
    | (refine H_nil ?_; simp)
    | (refine V_sseq ?_; simp)
    | (refine V_scond ?_; simp)
    | (refine V_ret ?_; simp only [RunK])
    | (refine V_skip ?_; simp only [RunK])
    | (refine CallP.fun_ (h1) (by first | rfl | fail) (by first | assumption | (simp; done) | fail) (by first | (simp; done) | (simp; rfl) | fail) (by first | (simp; done) | fail) (fun d hd => ?_); subst hd; (try simp))
    | (refine CallP.fun_ (h2) (by first | rfl | fail) (by first | assumption | (simp; done) | fail) (by first | (simp; done) | (simp; rfl) | fail) (by first | (simp; done) | fail) (fun d hd => ?_); subst hd; (try simp))
    | fail)
    refine EndW.here ?_
    (refine EndOK.val (.inr rfl) ?_; simp [resD, oneOrTup, pureD, Tryd.results23])
  · simp only [varsU, eagg, ne_eq, he, not_false_eq_true, if_true] at h1 h2 ⊢
    (refine Fun.of_bodyW Tryd.func23 rfl (by simp) fun Γ hn => ?_); simp only [entry, List.zipIdx_cons, List.zipIdx_nil, List.map_cons, List.map_nil, Nat.zero_add, Tryd.ntmps23]
    repeat' (first
    | (refine H_cons ?_; simp [he])
    | (refine H_nil ?_; simp [he])
    | (refine V_sseq ?_; simp [he])
    | (refine V_scond ?_; simp [he])
    | (refine V_ret ?_; simp only [RunK])
    | (refine CallP.fun_ (h1) (by first | rfl | fail) (by first | assumption | (simp; done) | fail) (by first | (simp [he]; done) | (simp [he]; rfl) | fail) (by first | (simp; done) | fail) (fun d hd => ?_); subst hd; (try simp [he]))
    | fail)
    refine EndW.here ?_
    (refine EndOK.val (.inr rfl) ?_; simp [resD, oneOrTup, pureD, Tryd.results23])
def vPot : Var := ⟨[112, 111, 116], 3, 999⟩
def vY (n : Int) (u : Int) : Var := ⟨[121], u, n⟩
def vBid : Var := ⟨[98, 105, 100], 0, 10⟩
def vMem (n : Int) : Var := ⟨[109, 101, 109, 98, 101, 114, 115], 0, n⟩
def tx1 : List UInt8 := [112, 111, 116, 32, 42, 32, 53, 48, 32, 112, 101, 114, 32, 109, 105, 108, 108, 101, 32, 45, 32, 98, 105, 100, 32, 47, 32, 109, 101, 109, 98, 101, 114, 115]
def tx2 : List UInt8 := [40, 32, 48, 32, 45, 32, 55, 32, 41, 32, 47, 32, 50]
def tx3 : List UInt8 := [105, 102, 32, 109, 101, 109, 98, 101, 114, 115, 32, 61, 61, 32, 48, 32, 116, 104, 101, 110, 32, 48, 32, 99, 111, 105, 110, 115, 32, 101, 108, 115, 101, 32, 112, 111, 116, 32, 47, 32, 109, 101, 109, 98, 101, 114, 115]
def tx4 : List UInt8 := [53, 32, 99, 111, 105, 110, 115]
def tx5 : List UInt8 := [120, 32, 43, 32, 121]
def tx6 : List UInt8 := [122, 32, 43, 32, 49, 32, 99, 111, 105, 110, 115]
def tx7 : List UInt8 := [121, 32, 47, 32, 48]
def tx8 : List UInt8 := [121, 32, 42, 32, 121]
theorem pf1 : ofP tx1 [vPot, vBid, vMem 3] = (46, 0) := by kernel_rfl
theorem pf2 : ofP tx2 [] = (-4, 0) := by kernel_rfl
theorem pf3 : ofP tx3 [vMem 0, vPot] = (0, 0) := by kernel_rfl
theorem pf4 : (parseY tx4).2 = (0, 0) := by kernel_rfl
theorem pf5 : (parseY tx5).2 = (0, 0) := by kernel_rfl
theorem pf6 : (parseY tx6).2 = (0, 0) := by kernel_rfl
theorem pf7 : ofP tx7 [vY 2 3] = (0, 15) := by kernel_rfl
theorem pf8 : ofP tx8 [vY 1073741824 0] = (0, 3) := by kernel_rfl
theorem pfd : valueP [⟨[120], (parseY tx4).1⟩, ⟨[122], (parseY tx5).1⟩] [vY 2 3] (parseY tx6).1 = (8, 0) := by kernel_rfl
theorem of_at {s : List UInt8} {vars : List Var} {r : Int × Int} (h : ofP s vars = r) : Fun Tryd.prog 23 [.u (.str s), .u (.sl (vars.map fun v => [.str v.name, .int .i64 v.unit, .int .i64 v.n]))] (· = .tup [.u (.int .i64 r.1), .u (.int .i64 r.2)]) := by
  subst h
  exact of_fun s vars
theorem parse_at {s : List UInt8} (h : (parseY s).2 = (0, 0)) : Fun Tryd.prog 24 [.u (.str s)] (· = .tup [eagg (parseY s).1, .u (.int .i64 0), .u (.int .i64 0)]) := by
  have h1 := parseExp_fun s
  rw [parseX_eq, h] at h1
  exact h1
theorem small_fun : Fun Tryd.prog 9 [] (· = .u (.bool true)) := by
  have h1 := of_at pf1
  have h2 := of_at pf2
  have h3 := of_at pf3
  have h4 := parse_at pf4
  have h5 := parse_at pf5
  have h6 := parse_at pf6
  have h7 := of_at pf7
  have h8 := of_at pf8
  have h9 := value_fun [⟨[120], (parseY tx4).1⟩, ⟨[122], (parseY tx5).1⟩] [vY 2 3] (parseY tx6).1
  rw [pfd] at h9
  generalize (parseY tx4).1 = e4 at *
  generalize (parseY tx5).1 = e5 at *
  generalize (parseY tx6).1 = e6 at *
  simp only [List.map_cons, List.map_nil, letsU, varsU, eagg, vPot, vBid, vMem, vY, tx1, tx2, tx3, tx4, tx5, tx6, tx7, tx8] at h1 h2 h3 h4 h5 h6 h7 h8 h9
  (refine Fun.of_bodyW Tryd.func9 rfl (by simp) fun Γ hn => ?_); simp only [entry, List.zipIdx_cons, List.zipIdx_nil, List.map_cons, List.map_nil, Nat.zero_add, Tryd.ntmps9]
  repeat' (first
    | (refine H_cons ?_; simp)
    | (refine H_nil ?_; simp)
    | (refine V_sseq ?_; simp)
    | (refine V_ret ?_; simp only [RunK])
    | (refine CallP.fun_ (h1) (by first | rfl | fail) (by first | assumption | (simp; done) | fail) (by first | (simp; done) | (simp; rfl) | fail) (by first | (simp; done) | fail) (fun d hd => ?_); subst hd; (try simp))
    | (refine CallP.fun_ (h2) (by first | rfl | fail) (by first | assumption | (simp; done) | fail) (by first | (simp; done) | (simp; rfl) | fail) (by first | (simp; done) | fail) (fun d hd => ?_); subst hd; (try simp))
    | (refine CallP.fun_ (h3) (by first | rfl | fail) (by first | assumption | (simp; done) | fail) (by first | (simp; done) | (simp; rfl) | fail) (by first | (simp; done) | fail) (fun d hd => ?_); subst hd; (try simp))
    | (refine CallP.fun_ (h4) (by first | rfl | fail) (by first | assumption | (simp; done) | fail) (by first | (simp; done) | (simp; rfl) | fail) (by first | (simp; done) | fail) (fun d hd => ?_); subst hd; (try simp))
    | (refine CallP.fun_ (h5) (by first | rfl | fail) (by first | assumption | (simp; done) | fail) (by first | (simp; done) | (simp; rfl) | fail) (by first | (simp; done) | fail) (fun d hd => ?_); subst hd; (try simp))
    | (refine CallP.fun_ (h6) (by first | rfl | fail) (by first | assumption | (simp; done) | fail) (by first | (simp; done) | (simp; rfl) | fail) (by first | (simp; done) | fail) (fun d hd => ?_); subst hd; (try simp))
    | (refine CallP.fun_ (h7) (by first | rfl | fail) (by first | assumption | (simp; done) | fail) (by first | (simp; done) | (simp; rfl) | fail) (by first | (simp; done) | fail) (fun d hd => ?_); subst hd; (try simp))
    | (refine CallP.fun_ (h8) (by first | rfl | fail) (by first | assumption | (simp; done) | fail) (by first | (simp; done) | (simp; rfl) | fail) (by first | (simp; done) | fail) (fun d hd => ?_); subst hd; (try simp))
    | (refine CallP.fun_ (h9) (by first | rfl | fail) (by first | assumption | (simp; done) | fail) (by first | (simp; done) | (simp; rfl) | fail) (by first | (simp; done) | fail) (fun d hd => ?_); subst hd; (try simp))
    | fail)
  refine EndW.here ?_
  (refine EndOK.val (.inr rfl) ?_; simp [resD, oneOrTup, pureD, Tryd.results9])
end Go.Proofs.YtfcopibncpkdoaaDoor
namespace Go.Proofs.YtfcopibncpkdoaaDoor
open Go Go.VL
def TM.Pure (f : TM) : Prop := ∀ t, f t = ((f []).1, t)
theorem TM.Pure.ret (x) : TM.Pure (TM.ret x) := fun t => rfl
theorem TM.Pure.bind {f : TM} {g : Int → TM} (hf : f.Pure) (hg : ∀ a, (g a).Pure) : (f.bind g).Pure := fun t => by
  unfold TM.bind
  rw [hf t, hf []]
  rcases (f []).1 with e | v
  · rfl
  · exact hg v t
/-- Names without a table. -/
def nmP (lets : List Let) (G : List UInt8 → Option Int) : Nat → List UInt8 → TM
  | 0, s => .ret (match G s with | some v => .ok v | none => .error 13)
  | n + 1, s => match G s with
    | some v => .ret (.ok v)
    | none => match lets[n]? with
      | none => .ret (.error 13)
      | some l => if l.name = s then .ret (valT (nmP lets G n) (shareP (lets.take n)) l.body []).1 else nmP lets G n s
def valX (lets : List Let) (G : List UInt8 → Option Int) (n : Nat) (e : Exp) : Except Int Int := (valT (nmP lets G n) (shareP (lets.take n)) e []).1
/-- A table that holds what the lets' bodies have. -/
def TabV (lets : List Let) (G : List UInt8 → Option Int) (t : Tab) : Prop := ∀ (i : Nat) (v e : Int), t[i]? = some (v, e, true) → ∃ l, lets[i]? = some l ∧ (v, e, true) = entX (valX lets G i l.body)
def Sm (lets : List Let) (G : List UInt8 → Option Int) (f f' : TM) : Prop := ∀ t, TabOK lets.length t → TabV lets G t → (f t).1 = (f' []).1 ∧ TabV lets G (f t).2
theorem Sm.ret {lets G x} : Sm lets G (TM.ret x) (TM.ret x) := fun t _ h => ⟨rfl, h⟩
theorem Sm.bind {lets G} {f f' : TM} {g g' : Int → TM} (hf : Sm lets G f f') (hk : TMok lets.length f) (hp : f'.Pure) (hg : ∀ a, Sm lets G (g a) (g' a)) : Sm lets G (f.bind g) (f'.bind g') := fun t h1 h2 => by
  obtain ⟨e1, v1⟩ := hf t h1 h2
  obtain ⟨k1, _, _⟩ := hk t h1
  unfold TM.bind
  rcases hft : f t with ⟨er | v, t'⟩
  · rw [hft] at e1 v1
    simp only at e1 v1
    rw [hp [], ← e1]
    exact ⟨rfl, v1⟩
  · rw [hft] at e1 v1 k1
    simp only at e1 v1 k1
    rw [hp [], ← e1]
    exact hg v t' k1 v1
end Go.Proofs.YtfcopibncpkdoaaDoor
namespace Go.Proofs.YtfcopibncpkdoaaDoor
open Go Go.VL
attribute [local simp] HS hcons hstep evPure opd uOf putOK St.put St.at getK binD binI binS binB nilD aggD eqUs cmpK lookD lookR rangeD nextD entryD keyD valU keyU lookK mkV entD_nil lookK_entD updK_entD1 updK_entD3 allUE allUE_entD makeMapD mapUpdD mapEff updK valM Key.kk shiftI arith unD convD pickD loadD cellsAt fieldAddrD fieldD indexAddrD indexD sliceD cutD lenD minmaxD nilCheckD buildD fillD cellsD isOne ones setAll mkAgg allU allocD boxD storeD St.add buildSliceD appendD rowsOf makeD setOb getK_setOb getK_del getK_cons stripL strip guardTmp entry chunks zcells valD argsV argsW argW argU1 argU0 argsU0 argsU1 calleeOf scalarD scalarU delAll effD St.effS RK_seq RK_seq_ret RK_seq_exit RK_blk RK_blk_ret RK_blk_exit RK_loop RK_loop_ret RK_loop_exit RK_done vs_seq vs_block vs_cond vs_region vs_loop vs_draw applyW mkD rdIds lentIds callOf calleeOf freeOp D.ids Op.operands Call.operands isEffOp makeIfD typeAssertD conc concs conc1 uOfV panicD IntKind.bits allU2 List.take_of_length_le List.range_succ
attribute [local irreducible] V G H HD HD2 HD4 HD4h RetX RunK Eff CallP CallV EndOK Fun Ret FinOK LoopI LoopW EndW
end Go.Proofs.YtfcopibncpkdoaaDoor
namespace Go.Proofs.YtfcopibncpkdoaaDoor
open Go Go.VL
theorem mk_op (op n u : Int) (s : List UInt8) (l : List Exp) : (Exp.mk op n u s l).op = op := rfl
theorem mk_n (op n u : Int) (s : List UInt8) (l : List Exp) : (Exp.mk op n u s l).n = n := rfl
theorem mk_unit (op n u : Int) (s : List UInt8) (l : List Exp) : (Exp.mk op n u s l).unit = u := rfl
theorem mk_s (op n u : Int) (s : List UInt8) (l : List Exp) : (Exp.mk op n u s l).s = s := rfl
theorem mk_args (op n u : Int) (s : List UInt8) (l : List Exp) : (Exp.mk op n u s l).args = l := rfl
def badE : Exp := .mk 5 0 0 [] [.mk 0 1 1 [] [], .mk 0 0 1 [] []]
theorem valL_bad {G : List UInt8 → Option Int} : valL [] G 0 badE [] = (.error 15, []) := by
  have h1 : valL [] G 0 (.mk 0 1 1 [] []) [] = (.ok 1, []) := by rw [valL_num rfl]; rfl
  have h2 : valL [] G 0 (.mk 0 0 1 [] []) [] = (.ok 0, []) := by rw [valL_num rfl]; rfl
  rw [valL_bin (e := badE) ⟨by show (2:Int) ≤ 5; omega, by show (5:Int) ≤ 9; omega⟩ rfl h1 h2]
  rfl
/-- A value that is no wrong argument: what it was evaluated from. -/
theorem valueP_out {vars : List Var} {a : Exp} {n e : Int} (h : valueP [] vars a = (n, e)) (he : e ≠ 1) :
    rightB 12 a = true ∧ vars.all inCB = true ∧ ((e = 0 ∧ valL [] (gF (gV vars)) 0 a [] = (.ok n, [])) ∨ (e ≠ 0 ∧ n = 0 ∧ valL [] (gF (gV vars)) 0 a [] = (.error e, []))) := by
  unfold valueP at h
  by_cases hc : rightAll [] a = true ∧ vars.all inCB = true
  · rw [if_pos hc] at h
    have hr := (rights_out hc.1).2.1
    have hgs : ∀ s v, gF (gV vars) s = some v → inC v := gV_in vars [] (fun s v h => by simp [asc] at h) (by simpa [List.all_eq_true] using hc.2)
    refine ⟨hr, hc.2, ?_⟩
    have hlen := (valL_ok (lets := []) (by simp) hgs 0 12 a hr [] ⟨rfl, by simp⟩).1.len
    have hne := (valL_ok (lets := []) (by simp) hgs 0 12 a hr [] ⟨rfl, by simp⟩).2.2
    have h' : ((entX (valL [] (gF (gV vars)) 0 a []).1).1, (entX (valL [] (gF (gV vars)) 0 a []).1).2.1) = (n, e) := h
    rcases hv : valL [] (gF (gV vars)) 0 a [] with ⟨w | v, t⟩
    · rw [hv] at hlen h' hne
      have ht : t = [] := List.eq_nil_of_length_eq_zero hlen
      subst ht
      cases h'
      exact .inr ⟨hne _ rfl, rfl, rfl⟩
    · rw [hv] at hlen h'
      have ht : t = [] := List.eq_nil_of_length_eq_zero hlen
      subst ht
      cases h'
      exact .inl ⟨rfl, rfl⟩
  · rw [if_neg hc] at h
    cases h
    exact absurd rfl he
theorem valueP_in {vars : List Var} {x : Exp} {r : Except Int Int} (hr : rightB 12 x = true) (hv : vars.all inCB = true) (h : valL [] (gF (gV vars)) 0 x [] = (r, [])) : valueP [] vars x = ((entX r).1, (entX r).2.1) := by
  unfold valueP
  rw [if_pos ⟨by unfold rightAll; rw [hr]; rfl, hv⟩]
  show ((entX (valL [] (gF (gV vars)) 0 x []).1).1, (entX (valL [] (gF (gV vars)) 0 x []).1).2.1) = _
  rw [h]
section
variable {vars : List Var} {a b x : Exp} {n e m f : Int}
theorem short_if1 (ha : valueP [] vars a = (n, e)) (hb : valueP [] vars b = (m, f)) (he : e ≠ 1) (hf : f ≠ 1) (hx : x = .mk 13 0 0 [] [a, b, badE]) (hr : rightB 12 x = true) :
    valueP [] vars x = if e ≠ 0 then (0, e) else if n ≠ 0 then (m, f) else (0, 15) := by
  obtain ⟨_, hv, h1⟩ := valueP_out ha he
  obtain ⟨_, _, h2⟩ := valueP_out hb hf
  have ho : x.op = 13 := by rw [hx]; rfl
  have hl : x.args = [a, b, badE] := by rw [hx]; rfl
  rcases h1 with ⟨h0, h1⟩ | ⟨h0, rfl, h1⟩
  · rw [if_neg (by simp [h0])]
    by_cases hn : n = 0
    · subst hn
      rw [if_neg (by simp), valueP_in hr hv ((valL_if0 ho hl h1).trans valL_bad)]
      rfl
    · rw [if_pos hn]
      rcases h2 with ⟨g0, h2⟩ | ⟨g0, rfl, h2⟩
      · rw [valueP_in hr hv ((valL_if1 ho hl h1 hn).trans h2), g0]; rfl
      · rw [valueP_in hr hv ((valL_if1 ho hl h1 hn).trans h2)]; rfl
  · rw [if_pos h0, valueP_in hr hv (valL_err (by omega) (by omega) hl h1)]; rfl
theorem short_if2 (ha : valueP [] vars a = (n, e)) (hb : valueP [] vars b = (m, f)) (he : e ≠ 1) (hf : f ≠ 1) (hx : x = .mk 13 0 0 [] [a, badE, b]) (hr : rightB 12 x = true) :
    valueP [] vars x = if e ≠ 0 then (0, e) else if n ≠ 0 then (0, 15) else (m, f) := by
  obtain ⟨_, hv, h1⟩ := valueP_out ha he
  obtain ⟨_, _, h2⟩ := valueP_out hb hf
  have ho : x.op = 13 := by rw [hx]; rfl
  have hl : x.args = [a, badE, b] := by rw [hx]; rfl
  rcases h1 with ⟨h0, h1⟩ | ⟨h0, rfl, h1⟩
  · rw [if_neg (by simp [h0])]
    by_cases hn : n = 0
    · subst hn
      rw [if_neg (by simp)]
      rcases h2 with ⟨g0, h2⟩ | ⟨g0, rfl, h2⟩
      · rw [valueP_in hr hv ((valL_if0 ho hl h1).trans h2), g0]; rfl
      · rw [valueP_in hr hv ((valL_if0 ho hl h1).trans h2)]; rfl
    · rw [if_pos hn, valueP_in hr hv ((valL_if1 ho hl h1 hn).trans valL_bad)]
      rfl
  · rw [if_pos h0, valueP_in hr hv (valL_err (by omega) (by omega) hl h1)]; rfl
theorem short_and (ha : valueP [] vars a = (n, e)) (he : e ≠ 1) (hx : x = .mk 10 0 0 [] [a, badE]) (hr : rightB 12 x = true) :
    valueP [] vars x = if e ≠ 0 then (0, e) else if n = 0 then (0, 0) else (0, 15) := by
  obtain ⟨_, hv, h1⟩ := valueP_out ha he
  have ho : x.op = 10 := by rw [hx]; rfl
  have hl : x.args = [a, badE] := by rw [hx]; rfl
  rcases h1 with ⟨h0, h1⟩ | ⟨h0, rfl, h1⟩
  · rw [if_neg (by simp [h0])]
    by_cases hn : n = 0
    · subst hn
      rw [if_pos rfl, valueP_in hr hv (valL_and0 ho hl h1)]; rfl
    · rw [if_neg hn, valueP_in hr hv (valL_andE ho hl h1 hn valL_bad)]; rfl
  · rw [if_pos h0, valueP_in hr hv (valL_err (by omega) (by omega) hl h1)]; rfl
theorem short_or (ha : valueP [] vars a = (n, e)) (he : e ≠ 1) (hx : x = .mk 11 0 0 [] [a, badE]) (hr : rightB 12 x = true) :
    valueP [] vars x = if e ≠ 0 then (0, e) else if n = 0 then (0, 15) else (1, 0) := by
  obtain ⟨_, hv, h1⟩ := valueP_out ha he
  have ho : x.op = 11 := by rw [hx]; rfl
  have hl : x.args = [a, badE] := by rw [hx]; rfl
  rcases h1 with ⟨h0, h1⟩ | ⟨h0, rfl, h1⟩
  · rw [if_neg (by simp [h0])]
    by_cases hn : n = 0
    · subst hn
      rw [if_pos rfl, valueP_in hr hv (valL_orE ho hl h1 valL_bad)]; rfl
    · rw [if_neg hn, valueP_in hr hv (valL_or1 ho hl h1 hn)]; rfl
  · rw [if_pos h0, valueP_in hr hv (valL_err (by omega) (by omega) hl h1)]; rfl
end
end Go.Proofs.YtfcopibncpkdoaaDoor
namespace Go.Proofs.YtfcopibncpkdoaaDoor
open Go Go.VL
attribute [local simp] hcons hstep evPure opd uOf putOK St.put St.at getK binD binI binS binB nilD aggD eqUs cmpK lookD lookR rangeD nextD entryD keyD valU keyU lookK mkV entD_nil lookK_entD updK_entD1 updK_entD3 allUE allUE_entD makeMapD mapUpdD mapEff updK valM Key.kk shiftI arith unD convD pickD loadD cellsAt fieldAddrD fieldD indexAddrD indexD sliceD cutD lenD minmaxD nilCheckD buildD fillD cellsD isOne ones setAll mkAgg allU allocD boxD storeD St.add buildSliceD appendD rowsOf makeD setOb getK_setOb getK_del getK_cons stripL strip guardTmp entry chunks zcells valD argsV argsW argW argU1 argU0 argsU0 argsU1 calleeOf scalarD scalarU delAll effD St.effS RK_seq RK_seq_ret RK_seq_exit RK_blk RK_blk_ret RK_blk_exit RK_loop RK_loop_ret RK_loop_exit RK_done vs_seq vs_block vs_cond vs_region vs_loop vs_draw applyW mkD rdIds lentIds callOf calleeOf freeOp D.ids Op.operands Call.operands isEffOp makeIfD typeAssertD conc concs conc1 uOfV panicD IntKind.bits allU2 List.take_of_length_le List.range_succ
attribute [local irreducible] V G H HD HD2 RunK Eff CallP CallV EndOK Fun Ret FinOK LoopI LoopW EndW
def nodesS : Nat → Exp → Int → Int
  | 0, _, most => most + 1
  | L + 1, e, most => if 40 < e.s.length then most + 1 else e.args.foldl (fun n x => if n ≤ most then n + nodesS L x (most - n) else n) 1
theorem nodesS_succ (L : Nat) (e : Exp) (most : Int) : nodesS (L + 1) e most = if 40 < e.s.length then most + 1 else e.args.foldl (fun n x => if n ≤ most then n + nodesS L x (most - n) else n) 1 := by rw [nodesS]
theorem nodes_bound : ∀ (L : Nat) (e : Exp) (most : Int), 0 ≤ most → 1 ≤ nodesS L e most ∧ nodesS L e most ≤ most + 1
  | 0, e, most, h => by rw [nodesS]; omega
  | L + 1, e, most, h => by
    rw [nodesS]
    split
    · omega
    · have : ∀ (l : List Exp) (n : Int), 1 ≤ n → n ≤ most + 1 → 1 ≤ l.foldl (fun n x => if n ≤ most then n + nodesS L x (most - n) else n) n ∧ l.foldl (fun n x => if n ≤ most then n + nodesS L x (most - n) else n) n ≤ most + 1 := by
        intro l
        induction l with
        | nil => intro n h1 h2; exact ⟨h1, h2⟩
        | cons a l ih =>
          intro n h1 h2
          rw [List.foldl_cons]
          split
          · rename_i hn
            have := nodes_bound L a (most - n) (by omega)
            exact ih _ (by omega) (by omega)
          · exact ih n h1 h2
      exact this _ 1 (by omega) (by omega)
theorem foldl_done {L : Nat} {most : Int} : ∀ (l : List Exp) (n : Int), ¬ n ≤ most → l.foldl (fun n x => if n ≤ most then n + nodesS L x (most - n) else n) n = n
  | [], _, _ => rfl
  | a :: l, n, h => by rw [List.foldl_cons, if_neg h]; exact foldl_done l n h
theorem nodes_fun : ∀ (L : Nat) (e : Exp) (most : Int), 0 ≤ most → most ≤ 1000 → (L : Int) ≤ 100 → Fun Tryd.prog 26 [eagg e, .u (.int .i64 most), .u (.int .i64 L)] (· = .u (.int .i64 (nodesS L e most)))
  | 0, e, most, _, _, _ => by
    rw [nodesS]
    (refine Fun.of_body Tryd.func26 rfl (by simp) fun Γ hn => ?_); simp only [entry, List.zipIdx_cons, List.zipIdx_nil, List.map_cons, List.map_nil, Nat.zero_add, Tryd.ntmps26]
    simp only [eagg]
    repeat' (first
    | (refine H_cons ?_; simp)
    | (refine H_nil ?_; simp)
    | (refine ⟨by omega, ?_⟩)
    | (refine V_sseq ?_; simp)
    | (refine V_scond ?_; simp)
    | (refine V_ret ?_; simp only [RunK])
    | fail)
    (refine EndOK.val (.inr rfl) ?_; simp [resD, oneOrTup, pureD, Tryd.results26])
  | L + 1, e, most, h0, h1, hL => by
    rw [nodesS_succ]
    by_cases hs : 40 < e.s.length
    · rw [if_pos hs]
      (refine Fun.of_body Tryd.func26 rfl (by simp) fun Γ hn => ?_); simp only [entry, List.zipIdx_cons, List.zipIdx_nil, List.map_cons, List.map_nil, Nat.zero_add, Tryd.ntmps26]
      simp only [eagg]
      repeat' (first
    | (refine H_cons ?_; simp)
    | (refine H_nil ?_; simp)
    | (refine ⟨by omega, ?_⟩)
    | (refine V_sseq ?_; simp)
    | (refine V_scond ?_; simp)
    | (refine V_ret ?_; simp only [RunK])
    | (refine ⟨?_, by omega⟩)
    | (intro hc <;> (try (exfalso; omega)))
    | fail)
      all_goals first
        | (exfalso; omega)
        | ((refine EndOK.val (.inr rfl) ?_; simp [resD, oneOrTup, pureD, Tryd.results26]); done)
    rw [if_neg hs]
    generalize hg : (e.args.foldl (fun n x => if n ≤ most then n + nodesS L x (most - n) else n) 1) = g
    (refine Fun.of_body Tryd.func26 rfl (by simp) fun Γ hn => ?_); simp only [entry, List.zipIdx_cons, List.zipIdx_nil, List.map_cons, List.map_nil, Nat.zero_add, Tryd.ntmps26]
    simp only [eagg]
    refine V_lenB (x := 0) (j := 4) rfl rfl fun hl => ?_
    simp only [List.length_map] at hl
    repeat' (first
    | (refine H_cons ?_; simp)
    | (refine H_nil ?_; simp)
    | (refine ⟨by omega, ?_⟩)
    | (refine V_sseq ?_; simp)
    | (refine V_scond ?_; simp)
    | (refine V_sblock ?_; simp)
    | (refine V_skip ?_; simp only [RunK])
    | (refine ⟨?_, by omega⟩)
    | (intro hc <;> (try (exfalso; omega)))
    | fail)
    refine V_loopF (α := { p : Nat × Int // p.1 ≤ e.args.length ∧ 1 ≤ p.2 ∧ p.2 ≤ most + 1 ∧ g = (e.args.drop p.1).foldl (fun n x => if n ≤ most then n + nodesS L x (most - n) else n) p.2 }) [1, 2, 3] (fun p => [(7, .u (.int .i64 p.1.2)), (8, .u (.int .i64 p.1.1))]) (fun p => e.args.length - p.1.1) ⟨(0, 1), by simp, by simp, by simp; omega, by simp [hg]⟩ ?_ ?_
    · exact (Wk.cut rfl (by simp [hn, St.lp]) (by simp [wkO, St.lp, getK_cons, getK, Ob.under, D.under, under_rowsD, under_entD]) (by simp [wkU, St.lp, keepE, getK_cons, getK, D.under]) (by simp [wkE, St.lp, keepE, getK_cons, getK] <;> (try (intros; simp_all; done)) <;> (try (intros; omega)) <;> (try grind)))
    rintro ⟨⟨i, n⟩, hi, hn1, hn2, hgn⟩
    simp only at hi hn1 hn2 hgn
    simp [St.lp, St.only, keepE, getK_cons, getK]
    rcases hx : e.args[i]? with _ | x
    · have hge : e.args.length ≤ i := by simpa using hx
      rw [List.drop_of_length_le hge] at hgn
      repeat' (first
    | (refine H_cons ?_; simp [hx])
    | (refine H_nil ?_; simp [hx])
    | (refine ⟨by omega, ?_⟩)
    | (refine V_sseq ?_; simp [hx])
    | (refine V_scond ?_; simp [hx])
    | (refine V_ret ?_; simp only [RunK])
    | (refine V_exit ?_; simp [RunK])
    | (intro hc <;> (try (exfalso; omega)))
    | fail)
      (refine EndOK.val (.inr rfl) ?_; simp [resD, oneOrTup, pureD, Tryd.results26])
      rw [hgn]; rfl
    · have hlt : i < e.args.length := (List.getElem?_eq_some_iff.1 hx).1
      by_cases hm : n ≤ most
      · have h5 := nodes_fun L x (most - n) (by omega) (by omega) (by omega)
        have hb := nodes_bound L x (most - n) (by omega)
        simp only [eagg] at h5
        rw [List.drop_eq_getElem_cons hlt, List.foldl_cons, if_pos hm, (List.getElem?_eq_some_iff.1 hx).2] at hgn
        generalize nodesS L x (most - n) = y at h5 hb hgn
        repeat' (first
    | (refine H_cons ?_; simp [hx, x.row_eq])
    | (refine H_nil ?_; simp [hx, x.row_eq])
    | (refine ⟨by omega, ?_⟩)
    | (refine V_sseq ?_; simp [hx, x.row_eq])
    | (refine V_scond ?_; simp [hx, x.row_eq])
    | (refine V_sregion ?_; simp [hx, x.row_eq])
    | (refine V_skip ?_; simp only [RunK])
    | (refine ⟨?_, by omega⟩)
    | (intro hc <;> (try (exfalso; omega)))
    | (refine CallP.fun_ (h5) (by first | rfl | fail) (by first | assumption | (simp; done) | fail) (by first | (simp [hx, x.row_eq]; done) | (simp [hx, x.row_eq]; rfl) | fail) (by first | (simp; done) | fail) (fun d hd => ?_); subst hd; (try simp [hx, x.row_eq]))
    | fail)
        refine LoopW.next ⟨(i + 1, n + y), (by omega : i + 1 ≤ e.args.length), (by omega : 1 ≤ n + y), (by omega : n + y ≤ most + 1), hgn⟩ (by simp; omega) ?_
        exact (Wk.cut rfl (by simp [hn, St.lp]) (by simp [wkO, St.lp, getK_cons, getK, Ob.under, D.under, under_rowsD, under_entD]) (by simp [wkU, St.lp, keepE, getK_cons, getK, D.under]) (by simp [wkE, St.lp, keepE, getK_cons, getK] <;> (try (intros; simp_all; done)) <;> (try (intros; omega)) <;> (try grind)))
      · rw [foldl_done _ _ hm] at hgn
        repeat' (first
    | (refine H_cons ?_; simp [hx])
    | (refine H_nil ?_; simp [hx])
    | (refine ⟨by omega, ?_⟩)
    | (refine V_sseq ?_; simp [hx])
    | (refine V_scond ?_; simp [hx])
    | (refine V_ret ?_; simp only [RunK])
    | (refine V_exit ?_; simp [RunK])
    | (refine ⟨?_, by omega⟩)
    | (intro hc <;> (try (exfalso; omega)))
    | fail)
        (refine EndOK.val (.inr rfl) ?_; simp [resD, oneOrTup, pureD, Tryd.results26])
        rw [hgn]
def fewE (e : Exp) : Bool := decide (nodesS 14 e 80 ≤ 80)
theorem fewExp_fun (e : Exp) : Fun Tryd.prog 11 [eagg e] (· = .u (.bool (fewE e))) := by
  have h2 := nodes_fun 14 e 80 (by omega) (by omega) (by omega)
  unfold fewE
  simp only [eagg] at h2 ⊢
  generalize nodesS 14 e 80 = y at h2 ⊢
  (refine Fun.of_body Tryd.func11 rfl (by simp) fun Γ hn => ?_); simp only [entry, List.zipIdx_cons, List.zipIdx_nil, List.map_cons, List.map_nil, Nat.zero_add, Tryd.ntmps11]
  repeat' (first
    | (refine H_cons ?_; simp)
    | (refine H_nil ?_; simp)
    | (refine V_sseq ?_; simp)
    | (refine V_ret ?_; simp only [RunK])
    | (refine CallP.fun_ (h2) (by first | rfl | fail) (by first | assumption | (simp; done) | fail) (by first | (simp; done) | (simp; rfl) | fail) (by first | (simp; done) | fail) (fun d hd => ?_); subst hd; (try simp))
    | fail)
  (refine EndOK.val (.inr rfl) ?_; simp [resD, oneOrTup, pureD, Tryd.results11])
mutual
def namesN : Exp → Int
  | .mk op _ _ _ args => (if op = 1 then 1 else 0) + namesNL args
def namesNL : List Exp → Int
  | [] => 0
  | e :: r => namesN e + namesNL r
end
theorem namesN_eq (e : Exp) : namesN e = (if e.op = 1 then 1 else 0) + namesNL e.args := by cases e with | mk op n u s args => rw [namesN]; rfl
mutual
theorem namesN_nonneg : ∀ e : Exp, 0 ≤ namesN e
  | .mk op n u s args => by
    rw [namesN]
    have := namesNL_nonneg args
    split <;> omega
theorem namesNL_nonneg : ∀ l : List Exp, 0 ≤ namesNL l
  | [] => by rw [namesNL]; omega
  | e :: r => by
    rw [namesNL]
    have := namesN_nonneg e
    have := namesNL_nonneg r
    omega
end
theorem namesNL_at {l : List Exp} {i : Nat} {x : Exp} (h : l[i]? = some x) : namesNL (l.take (i + 1)) = namesNL (l.take i) + namesN x := by
  induction l generalizing i with
  | nil => simp at h
  | cons a l ih =>
    cases i with
    | zero => simp at h; subst h; simp [namesNL]
    | succ i => rw [List.take_succ_cons, List.take_succ_cons, namesNL, namesNL, ih (i := i) (by simpa using h)]; omega
theorem namesNL_le {l : List Exp} (i : Nat) : namesNL (l.take i) ≤ namesNL l := by
  induction l generalizing i with
  | nil => simp
  | cons a l ih =>
    cases i with
    | zero => rw [List.take_zero]; have := namesNL_nonneg (a :: l); rw [show namesNL [] = 0 by rw [namesNL]]; exact this
    | succ i => rw [List.take_succ_cons, namesNL, namesNL]; have := ih i; omega
/-- Few nodes: few names. -/
theorem few_names : ∀ (L : Nat) (e : Exp) (most : Int), 0 ≤ most → nodesS L e most ≤ most → namesN e ≤ nodesS L e most
  | 0, e, most, _, h => by rw [nodesS] at h; omega
  | L + 1, e, most, h0, h => by
    rw [nodesS_succ] at h ⊢
    by_cases hs : 40 < e.s.length
    · rw [if_pos hs] at h; omega
    rw [if_neg hs] at h ⊢
    have key : ∀ (l : List Exp) (n : Int), 1 ≤ n → l.foldl (fun n x => if n ≤ most then n + nodesS L x (most - n) else n) n ≤ most → n + namesNL l ≤ l.foldl (fun n x => if n ≤ most then n + nodesS L x (most - n) else n) n := by
      intro l
      induction l with
      | nil => intro n _ _; rw [namesNL]; simp
      | cons a l ih =>
        intro n h1 h2
        rw [List.foldl_cons] at h2 ⊢
        by_cases hn : n ≤ most
        · rw [if_pos hn] at h2 ⊢
          have hb := nodes_bound L a (most - n) (by omega)
          have h3 := ih _ (by omega) h2
          have h4 : n + nodesS L a (most - n) ≤ most := by
            rcases Int.lt_or_le most (n + nodesS L a (most - n)) with h5 | h5
            · rw [foldl_done _ _ (by omega)] at h2; omega
            · exact h5
          have h5 := few_names L a (most - n) (by omega) (by omega)
          rw [namesNL]
          omega
        · rw [if_neg hn, foldl_done _ _ hn] at h2; omega
    have h1 := key e.args 1 (by omega) h
    rw [namesN_eq]
    by_cases h3 : e.op = 1
    · rw [if_pos h3]; omega
    · rw [if_neg h3]; omega
theorem rnames_fun : ∀ (m : Nat) (e : Exp), SizeOf.sizeOf e ≤ m → namesN e ≤ 1000000 → Fun Tryd.prog 25 [eagg e] (· = .u (.int .i64 (namesN e)))
  | 0, e, hm, _ => by cases e; simp at hm
  | m + 1, e, hm, hN => by
    have hch : ∀ x ∈ e.args, SizeOf.sizeOf x ≤ m := fun x hx => by
      cases e with
      | mk op n u s args =>
        have h1 := List.sizeOf_lt_of_mem (show x ∈ args from hx)
        simp at hm
        omega
    rw [namesN_eq] at hN ⊢
    have hnn := namesNL_nonneg e.args
    generalize hk : (if e.op = 1 then (1 : Int) else 0) = k0 at hN ⊢
    have hk01 : 0 ≤ k0 ∧ k0 ≤ 1 := by rw [← hk]; split <;> omega
    (refine Fun.of_body Tryd.func25 rfl (by simp) fun Γ hn => ?_); simp only [entry, List.zipIdx_cons, List.zipIdx_nil, List.map_cons, List.map_nil, Nat.zero_add, Tryd.ntmps25]
    simp only [eagg]
    refine V_lenB (x := 0) (j := 4) rfl rfl fun hl => ?_
    simp only [List.length_map] at hl
    repeat' (first
    | (refine H_cons ?_; simp)
    | (refine H_nil ?_; simp)
    | (refine V_sseq ?_; simp)
    | (refine V_scond ?_; simp)
    | (refine V_sblock ?_; simp)
    | (refine V_sregion ?_; simp)
    | (refine V_skip ?_; simp only [RunK])
    | (refine ⟨fun hc => ?_, fun hc => ?_⟩ <;> (try (exfalso; omega)))
    | fail)
    all_goals
      refine V_loopF (α := { i : Nat // i ≤ e.args.length }) [1] (fun i => [(3, .u (.int .i64 (k0 + namesNL (e.args.take i.1)))), (4, .u (.int .i64 i.1))]) (fun i => e.args.length - i.1) ⟨0, by omega⟩ ?_ ?_
      · exact (Wk.cut rfl (by simp [hn, St.lp]) (by simp [wkO, St.lp, getK_cons, getK, Ob.under, D.under, under_rowsD, under_entD, namesNL]) (by simp [wkU, St.lp, keepE, getK_cons, getK, D.under, namesNL]) (by simp [wkE, St.lp, keepE, getK_cons, getK, namesNL] <;> (try (intros; simp_all; done)) <;> (try (intros; omega)) <;> (try grind)))
      rintro ⟨i, hi⟩
      simp [St.lp, St.only, keepE, getK_cons, getK]
      rcases hx : e.args[i]? with _ | x
      · have hge : e.args.length ≤ i := by simpa using hx
        obtain rfl : i = e.args.length := by omega
        repeat' (first
    | (refine H_cons ?_; simp [hx])
    | (refine H_nil ?_; simp [hx])
    | (refine V_sseq ?_; simp [hx])
    | (refine V_scond ?_; simp [hx])
    | (refine V_ret ?_; simp only [RunK])
    | (refine V_exit ?_; simp [RunK])
    | fail)
        (refine EndOK.val (.inr rfl) ?_; simp [resD, oneOrTup, pureD, Tryd.results25])
      · have hlt : i < e.args.length := (List.getElem?_eq_some_iff.1 hx).1
        have hat := namesNL_at hx
        have hle := namesNL_le (l := e.args) (i + 1)
        have hn0 := namesNL_nonneg (e.args.take i)
        have hnx := namesN_nonneg x
        have h5 := rnames_fun m x (hch x (List.mem_of_getElem? hx)) (by omega)
        simp only [eagg] at h5
        repeat' (first
    | (refine H_cons ?_; simp [hx, x.row_eq])
    | (refine H_nil ?_; simp [hx, x.row_eq])
    | (refine ⟨by omega, ?_⟩)
    | (refine V_sseq ?_; simp [hx, x.row_eq])
    | (refine V_scond ?_; simp [hx, x.row_eq])
    | (refine V_sregion ?_; simp [hx, x.row_eq])
    | (refine V_skip ?_; simp only [RunK])
    | (refine ⟨?_, by omega⟩)
    | (intro hc <;> (try (exfalso; omega)))
    | (refine CallP.fun_ (h5) (by first | rfl | fail) (by first | assumption | (simp; done) | fail) (by first | (simp [hx, x.row_eq]; done) | (simp [hx, x.row_eq]; rfl) | fail) (by first | (simp; done) | fail) (fun d hd => ?_); subst hd; (try simp [hx, x.row_eq]))
    | fail)
        all_goals
          refine LoopW.next ⟨i + 1, by omega⟩ (by simp; omega) ?_
          exact (Wk.cut rfl (by simp [hn, St.lp]) (by simp [wkO, St.lp, getK_cons, getK, Ob.under, D.under, under_rowsD, under_entD, hat, Int.add_assoc]) (by simp [wkU, St.lp, keepE, getK_cons, getK, D.under, hat, Int.add_assoc]) (by simp [wkE, St.lp, keepE, getK_cons, getK, hat, Int.add_assoc] <;> (try (intros; simp_all; done)) <;> (try (intros; omega)) <;> (try grind)))
def fewLG : List Let → Int → Int → Bool
  | [], _, _ => true
  | l :: r, i, p => if i ≤ 22 then (if 40 < l.name.length ∨ fewE l.body = false then false else if 2000 < p * (1 + namesN l.body) then false else fewLG r (i + 1) (p * (1 + namesN l.body))) else true
def fewV (vs : List Var) : Bool := (vs.take 21).all fun v => decide (v.name.length ≤ 40)
def few17 (l : List Let) (vs : List Var) : Bool := fewLG l 0 1 && fewV vs && decide ((l.length : Int) ≤ 22) && decide ((vs.length : Int) ≤ 20)
theorem few_fun (l : List Let) (vs : List Var) : Fun Tryd.prog 10 [.u (letsU l), .u (varsU vs)] (· = .u (.bool (few17 l vs))) := by
  unfold few17
  generalize hB : fewLG l 0 1 = B
  generalize hV : fewV vs = C
  unfold fewV at hV
  (refine Fun.of_body Tryd.func10 rfl (by simp) fun Γ hn => ?_); simp only [entry, List.zipIdx_cons, List.zipIdx_nil, List.map_cons, List.map_nil, Nat.zero_add, Tryd.ntmps10]
  simp only [letsU, varsU]
  refine V_len (x := 0) rfl fun hl => ?_
  refine V_len (x := 1) rfl fun hlv => ?_
  simp only [List.length_map] at hl hlv
  repeat' (first
    | (refine H_cons ?_; simp)
    | (refine H_nil ?_; simp)
    | (refine V_sseq ?_; simp)
    | (refine V_sblock ?_; simp)
    | fail)
  refine V_loopF (α := { q : Nat × Int // q.1 ≤ l.length ∧ (q.1 : Int) ≤ 23 ∧ 1 ≤ q.2 ∧ q.2 ≤ 2000 ∧ B = fewLG (l.drop q.1) q.1 q.2 }) [0, 1] (fun q => [(5, .u (.int .i64 q.1.2)), (6, .u (.int .i64 q.1.1))]) (fun q => l.length - q.1.1) ⟨(0, 1), by omega, by omega, by omega, by omega, by simpa using hB.symm⟩ ?_ ?_
  · exact (Wk.env rfl rfl rfl (by simp [wkE, St.lp, keepE, getK_cons, getK] <;> (try (intros; simp_all; done)) <;> (try (intros; omega)) <;> (try grind)))
  rintro ⟨⟨i, p⟩, hi, him, hp1, hp2, hb⟩
  simp only at hi him hp1 hp2 hb
  simp [St.lp, St.only, keepE, getK_cons, getK]
  rcases hx : l[i]? with _ | x
  · have hge : l.length ≤ i := by simpa using hx
    obtain rfl : i = l.length := by omega
    rw [List.drop_length, fewLG] at hb
    subst hb
    repeat' (first
    | (refine H_cons ?_; simp [hx])
    | (refine H_nil ?_; simp [hx])
    | (refine V_sseq ?_; simp [hx])
    | (refine V_scond ?_; simp [hx])
    | (refine V_sblock ?_; simp [hx])
    | (refine V_exit ?_; simp [RunK])
    | fail)
    refine V_loopF (α := { i : Nat // i ≤ vs.length ∧ (i : Int) ≤ 21 ∧ ∀ v ∈ vs.take i, decide (v.name.length ≤ 40) = true }) [0, 1] (fun i => [(7, .u (.int .i64 i.1))]) (fun i => vs.length - i.1) ⟨0, by omega, by omega, by simp⟩ ?_ ?_
    · exact (Wk.env rfl rfl rfl (by simp [wkE, St.lp, keepE, getK_cons, getK] <;> (try (intros; simp_all; done)) <;> (try (intros; omega)) <;> (try grind)))
    rintro ⟨k, hk0, hkn, hkb⟩
    simp [St.lp, St.only, keepE, getK_cons, getK]
    have fin : (k = vs.length ∨ (k : Int) = 21) → C = true := fun h => by
      rw [← hV, List.all_eq_true]
      intro v hv
      refine hkb v ?_
      rcases h with h | h
      · rw [h, List.take_length]; exact List.mem_of_mem_take hv
      · rw [show k = 21 by omega]; exact hv
    rcases hy : vs[k]? with _ | v
    · have hge2 : vs.length ≤ k := by simpa using hy
      obtain rfl : k = vs.length := by omega
      have := fin (.inl rfl)
      subst this
      repeat' (first
    | (refine H_cons ?_; simp [hy])
    | (refine H_nil ?_; simp [hy])
    | (refine V_sseq ?_; simp [hy])
    | (refine V_scond ?_; simp [hy])
    | (refine V_ret ?_; simp only [RunK])
    | (refine V_exit ?_; simp [RunK])
    | (refine ⟨fun hc => ?_, fun hc => ?_⟩ <;> (try (exfalso; omega)))
    | fail)
      all_goals
        (refine EndOK.val (.inr rfl) ?_; simp [resD, oneOrTup, pureD, Tryd.results10])
      all_goals (clear hB hV fin; simp_all <;> (try (intros; omega)))
    · have hlt2 : k < vs.length := (List.getElem?_eq_some_iff.1 hy).1
      by_cases hm2 : (k : Int) ≤ 20
      · by_cases hnv : 40 < v.name.length
        · have hnv1 : 40 < (v.name.length : Int) := by omega
          repeat' (first
    | (refine H_cons ?_; simp [hy, hm2, hnv, hnv1])
    | (refine H_nil ?_; simp [hy, hm2, hnv, hnv1])
    | (refine V_sseq ?_; simp [hy, hm2, hnv, hnv1])
    | (refine V_scond ?_; simp [hy, hm2, hnv, hnv1])
    | (refine V_ret ?_; simp only [RunK])
    | (refine V_skip ?_; simp only [RunK])
    | (refine ⟨?_, by omega⟩)
    | (intro hc <;> (try (exfalso; omega)))
    | fail)
          (refine EndOK.val (.inr rfl) ?_; simp [resD, oneOrTup, pureD, Tryd.results10])
          have : C = false := by
            rw [← hV, List.all_eq_false]
            exact ⟨v, List.mem_of_getElem? (i := k) (by rw [List.getElem?_take, if_pos (by omega)]; exact hy), by simp; omega⟩
          simp [this]
        · have hnv1 : ¬ 40 < (v.name.length : Int) := by omega
          repeat' (first
    | (refine H_cons ?_; simp [hy, hm2, hnv, hnv1])
    | (refine H_nil ?_; simp [hy, hm2, hnv, hnv1])
    | (refine ⟨by omega, ?_⟩)
    | (refine V_sseq ?_; simp [hy, hm2, hnv, hnv1])
    | (refine V_scond ?_; simp [hy, hm2, hnv, hnv1])
    | (refine V_sregion ?_; simp [hy, hm2, hnv, hnv1])
    | (refine V_skip ?_; simp only [RunK])
    | (refine ⟨?_, by omega⟩)
    | (intro hc <;> (try (exfalso; omega)))
    | fail)
          refine LoopW.next ⟨k + 1, by omega, by omega, take_succ_all hy hkb (by simp; omega)⟩ (by simp; omega) ?_
          exact (Wk.env rfl rfl rfl (by simp [wkE, St.lp, keepE, getK_cons, getK] <;> (try (intros; simp_all; done)) <;> (try (intros; omega)) <;> (try grind)))
      · have := fin (.inr (by omega))
        subst this
        repeat' (first
    | (refine H_cons ?_; simp [hy, hm2])
    | (refine H_nil ?_; simp [hy, hm2])
    | (refine V_sseq ?_; simp [hy, hm2])
    | (refine V_scond ?_; simp [hy, hm2])
    | (refine V_ret ?_; simp only [RunK])
    | (refine V_exit ?_; simp [RunK])
    | (refine ⟨?_, by omega⟩)
    | (refine ⟨fun hc => ?_, fun hc => ?_⟩ <;> (try (exfalso; omega)))
    | (intro hc <;> (try (exfalso; omega)))
    | fail)
        all_goals
          (refine EndOK.val (.inr rfl) ?_; simp [resD, oneOrTup, pureD, Tryd.results10])
        all_goals (clear hB hV fin; simp_all <;> (try (intros; omega)))
  · have hlt : i < l.length := (List.getElem?_eq_some_iff.1 hx).1
    rw [List.drop_eq_getElem_cons hlt, (List.getElem?_eq_some_iff.1 hx).2, fewLG] at hb
    by_cases hm : (i : Int) ≤ 22
    · rw [if_pos hm] at hb
      have h5 := fewExp_fun x.body
      simp only [eagg] at h5
      by_cases hn60 : 40 < x.name.length
      · have hn61 : 40 < (x.name.length : Int) := by omega
        rw [if_pos (.inl hn60)] at hb
        repeat' (first
    | (refine H_cons ?_; simp [hx, hm, hn60, hn61])
    | (refine H_nil ?_; simp [hx, hm, hn60, hn61])
    | (refine V_sseq ?_; simp [hx, hm, hn60, hn61])
    | (refine V_scond ?_; simp [hx, hm, hn60, hn61])
    | (refine V_ret ?_; simp only [RunK])
    | (refine V_skip ?_; simp only [RunK])
    | (refine ⟨?_, by omega⟩)
    | (intro hc <;> (try (exfalso; omega)))
    | fail)
        (refine EndOK.val (.inr rfl) ?_; simp [resD, oneOrTup, pureD, Tryd.results10])
        simp [hb]
      · have hn61 : ¬ 40 < (x.name.length : Int) := by omega
        cases hf : fewE x.body with
        | false =>
          rw [if_pos (.inr hf)] at hb
          rw [hf] at h5
          repeat' (first
    | (refine H_cons ?_; simp [hx, hm, hn60, hn61])
    | (refine H_nil ?_; simp [hx, hm, hn60, hn61])
    | (refine V_sseq ?_; simp [hx, hm, hn60, hn61])
    | (refine V_scond ?_; simp [hx, hm, hn60, hn61])
    | (refine V_ret ?_; simp only [RunK])
    | (refine V_skip ?_; simp only [RunK])
    | (refine ⟨?_, by omega⟩)
    | (intro hc <;> (try (exfalso; omega)))
    | (refine CallP.fun_ (h5) (by first | rfl | fail) (by first | assumption | (simp; done) | fail) (by first | (simp [hx, hm, hn60, hn61]; done) | (simp [hx, hm, hn60, hn61]; rfl) | fail) (by first | (simp; done) | fail) (fun d hd => ?_); subst hd; (try simp [hx, hm, hn60, hn61]))
    | fail)
          (refine EndOK.val (.inr rfl) ?_; simp [resD, oneOrTup, pureD, Tryd.results10])
          simp [hb]
        | true =>
          rw [if_neg (by simp [hn60, hf])] at hb
          rw [hf] at h5
          have hfn : namesN x.body ≤ 80 := by
            unfold fewE at hf
            simp only [decide_eq_true_eq] at hf
            have := few_names 14 x.body 80 (by omega) hf
            omega
          have hnn := namesN_nonneg x.body
          have h6 := rnames_fun _ x.body (Nat.le_refl _) (by omega)
          simp only [eagg] at h6
          generalize namesN x.body = y at h6 hb hfn hnn
          have hpy : p * (1 + y) ≤ 2000 * 1001 := Int.mul_le_mul hp2 (by omega) (by omega) (by omega)
          have hpy1 : 1 ≤ p * (1 + y) := by
            have := Int.mul_le_mul hp1 (show (1 : Int) ≤ 1 + y by omega) (by omega) (by omega)
            omega
          generalize hq : p * (1 + y) = q at *
          by_cases hq2 : 2000 < q
          · rw [if_pos hq2] at hb
            repeat' (first
    | (refine H_cons ?_; simp [hx, hm, hn60, hn61, hq, hq2])
    | (refine H_nil ?_; simp [hx, hm, hn60, hn61, hq, hq2])
    | (refine ⟨by omega, ?_⟩)
    | (refine V_sseq ?_; simp [hx, hm, hn60, hn61, hq, hq2])
    | (refine V_scond ?_; simp [hx, hm, hn60, hn61, hq, hq2])
    | (refine V_ret ?_; simp only [RunK])
    | (refine V_skip ?_; simp only [RunK])
    | (refine ⟨?_, by omega⟩)
    | (intro hc <;> (try (exfalso; omega)))
    | (refine CallP.fun_ (h5) (by first | rfl | fail) (by first | assumption | (simp; done) | fail) (by first | (simp [hx, hm, hn60, hn61, hq, hq2]; done) | (simp [hx, hm, hn60, hn61, hq, hq2]; rfl) | fail) (by first | (simp; done) | fail) (fun d hd => ?_); subst hd; (try simp [hx, hm, hn60, hn61, hq, hq2]))
    | (refine CallP.fun_ (h6) (by first | rfl | fail) (by first | assumption | (simp; done) | fail) (by first | (simp [hx, hm, hn60, hn61, hq, hq2]; done) | (simp [hx, hm, hn60, hn61, hq, hq2]; rfl) | fail) (by first | (simp; done) | fail) (fun d hd => ?_); subst hd; (try simp [hx, hm, hn60, hn61, hq, hq2]))
    | fail)
            (refine EndOK.val (.inr rfl) ?_; simp [resD, oneOrTup, pureD, Tryd.results10])
            simp [hb]
          · rw [if_neg hq2] at hb
            repeat' (first
    | (refine H_cons ?_; simp [hx, hm, hn60, hn61, hq, hq2])
    | (refine H_nil ?_; simp [hx, hm, hn60, hn61, hq, hq2])
    | (refine ⟨by omega, ?_⟩)
    | (refine V_sseq ?_; simp [hx, hm, hn60, hn61, hq, hq2])
    | (refine V_scond ?_; simp [hx, hm, hn60, hn61, hq, hq2])
    | (refine V_sregion ?_; simp [hx, hm, hn60, hn61, hq, hq2])
    | (refine V_skip ?_; simp only [RunK])
    | (refine ⟨?_, by omega⟩)
    | (intro hc <;> (try (exfalso; omega)))
    | (refine CallP.fun_ (h5) (by first | rfl | fail) (by first | assumption | (simp; done) | fail) (by first | (simp [hx, hm, hn60, hn61, hq, hq2]; done) | (simp [hx, hm, hn60, hn61, hq, hq2]; rfl) | fail) (by first | (simp; done) | fail) (fun d hd => ?_); subst hd; (try simp [hx, hm, hn60, hn61, hq, hq2]))
    | (refine CallP.fun_ (h6) (by first | rfl | fail) (by first | assumption | (simp; done) | fail) (by first | (simp [hx, hm, hn60, hn61, hq, hq2]; done) | (simp [hx, hm, hn60, hn61, hq, hq2]; rfl) | fail) (by first | (simp; done) | fail) (fun d hd => ?_); subst hd; (try simp [hx, hm, hn60, hn61, hq, hq2]))
    | fail)
            refine LoopW.next ⟨(i + 1, q), hlt, by omega, hpy1, by omega, hb⟩ (by simp; omega) ?_
            exact (Wk.env rfl rfl rfl (by simp [wkE, St.lp, keepE, getK_cons, getK] <;> (try (intros; simp_all; done)) <;> (try (intros; omega)) <;> (try grind)))
    · rw [if_neg hm] at hb
      subst hb
      repeat' (first
    | (refine H_cons ?_; simp [hx, hm])
    | (refine H_nil ?_; simp [hx, hm])
    | (refine V_sseq ?_; simp [hx, hm])
    | (refine V_scond ?_; simp [hx, hm])
    | (refine V_sblock ?_; simp [hx, hm])
    | (refine V_exit ?_; simp [RunK])
    | (refine ⟨?_, by omega⟩)
    | (intro hc <;> (try (exfalso; omega)))
    | fail)
      refine V_loopF (α := { i : Nat // i ≤ vs.length ∧ (i : Int) ≤ 21 ∧ ∀ v ∈ vs.take i, decide (v.name.length ≤ 40) = true }) [0, 1] (fun i => [(7, .u (.int .i64 i.1))]) (fun i => vs.length - i.1) ⟨0, by omega, by omega, by simp⟩ ?_ ?_
      · exact (Wk.env rfl rfl rfl (by simp [wkE, St.lp, keepE, getK_cons, getK] <;> (try (intros; simp_all; done)) <;> (try (intros; omega)) <;> (try grind)))
      rintro ⟨k, hk0, hkn, hkb⟩
      simp [St.lp, St.only, keepE, getK_cons, getK]
      have fin : (k = vs.length ∨ (k : Int) = 21) → C = true := fun h => by
        rw [← hV, List.all_eq_true]
        intro v hv
        refine hkb v ?_
        rcases h with h | h
        · rw [h, List.take_length]; exact List.mem_of_mem_take hv
        · rw [show k = 21 by omega]; exact hv
      rcases hy : vs[k]? with _ | v
      · have hge2 : vs.length ≤ k := by simpa using hy
        obtain rfl : k = vs.length := by omega
        have := fin (.inl rfl)
        subst this
        repeat' (first
    | (refine H_cons ?_; simp [hy])
    | (refine H_nil ?_; simp [hy])
    | (refine ⟨by omega, ?_⟩)
    | (refine V_sseq ?_; simp [hy])
    | (refine V_scond ?_; simp [hy])
    | (refine V_ret ?_; simp only [RunK])
    | (refine V_exit ?_; simp [RunK])
    | (intro hc <;> (try (exfalso; omega)))
    | fail)
        all_goals
          (refine EndOK.val (.inr rfl) ?_; simp [resD, oneOrTup, pureD, Tryd.results10])
        all_goals (clear hB hV fin; simp_all <;> (try (intros; omega)))
      · have hlt2 : k < vs.length := (List.getElem?_eq_some_iff.1 hy).1
        by_cases hm2 : (k : Int) ≤ 20
        · by_cases hnv : 40 < v.name.length
          · have hnv1 : 40 < (v.name.length : Int) := by omega
            repeat' (first
    | (refine H_cons ?_; simp [hy, hm2, hnv, hnv1])
    | (refine H_nil ?_; simp [hy, hm2, hnv, hnv1])
    | (refine V_sseq ?_; simp [hy, hm2, hnv, hnv1])
    | (refine V_scond ?_; simp [hy, hm2, hnv, hnv1])
    | (refine V_ret ?_; simp only [RunK])
    | (refine V_skip ?_; simp only [RunK])
    | (refine ⟨?_, by omega⟩)
    | (intro hc <;> (try (exfalso; omega)))
    | fail)
            (refine EndOK.val (.inr rfl) ?_; simp [resD, oneOrTup, pureD, Tryd.results10])
            have : C = false := by
              rw [← hV, List.all_eq_false]
              exact ⟨v, List.mem_of_getElem? (i := k) (by rw [List.getElem?_take, if_pos (by omega)]; exact hy), by simp; omega⟩
            simp [this]
          · have hnv1 : ¬ 40 < (v.name.length : Int) := by omega
            repeat' (first
    | (refine H_cons ?_; simp [hy, hm2, hnv, hnv1])
    | (refine H_nil ?_; simp [hy, hm2, hnv, hnv1])
    | (refine ⟨by omega, ?_⟩)
    | (refine V_sseq ?_; simp [hy, hm2, hnv, hnv1])
    | (refine V_scond ?_; simp [hy, hm2, hnv, hnv1])
    | (refine V_sregion ?_; simp [hy, hm2, hnv, hnv1])
    | (refine V_skip ?_; simp only [RunK])
    | (refine ⟨?_, by omega⟩)
    | (intro hc <;> (try (exfalso; omega)))
    | fail)
            refine LoopW.next ⟨k + 1, by omega, by omega, take_succ_all hy hkb (by simp; omega)⟩ (by simp; omega) ?_
            exact (Wk.env rfl rfl rfl (by simp [wkE, St.lp, keepE, getK_cons, getK] <;> (try (intros; simp_all; done)) <;> (try (intros; omega)) <;> (try grind)))
        · have := fin (.inr (by omega))
          subst this
          repeat' (first
    | (refine H_cons ?_; simp [hy, hm2])
    | (refine H_nil ?_; simp [hy, hm2])
    | (refine ⟨by omega, ?_⟩)
    | (refine V_sseq ?_; simp [hy, hm2])
    | (refine V_scond ?_; simp [hy, hm2])
    | (refine V_ret ?_; simp only [RunK])
    | (refine V_exit ?_; simp [RunK])
    | (refine ⟨?_, by omega⟩)
    | (intro hc <;> (try (exfalso; omega)))
    | fail)
          all_goals
            (refine EndOK.val (.inr rfl) ?_; simp [resD, oneOrTup, pureD, Tryd.results10])
          all_goals (clear hB hV fin; simp_all <;> (try (intros; omega)))
end Go.Proofs.YtfcopibncpkdoaaDoor
namespace Go.Proofs.YtfcopibncpkdoaaDoor
open Go Go.VL
attribute [local simp] HS hcons hstep evPure opd uOf putOK St.put St.at getK binD binI binS binB nilD aggD eqUs cmpK lookD lookR rangeD nextD entryD keyD valU keyU lookK mkV entD_nil lookK_entD updK_entD1 updK_entD3 allUE allUE_entD makeMapD mapUpdD mapEff updK valM Key.kk shiftI arith unD convD pickD loadD cellsAt fieldAddrD fieldD indexAddrD indexD sliceD cutD lenD minmaxD nilCheckD buildD fillD cellsD isOne ones setAll mkAgg allU allocD boxD storeD St.add buildSliceD appendD rowsOf makeD setOb getK_setOb getK_del getK_cons stripL strip guardTmp entry chunks zcells valD argsV argsW argW argU1 argU0 argsU0 argsU1 calleeOf scalarD scalarU delAll effD St.effS RK_seq RK_seq_ret RK_seq_exit RK_blk RK_blk_ret RK_blk_exit RK_loop RK_loop_ret RK_loop_exit RK_done vs_seq vs_block vs_cond vs_region vs_loop vs_draw applyW mkD rdIds lentIds callOf calleeOf freeOp D.ids Op.operands Call.operands isEffOp makeIfD typeAssertD conc concs conc1 uOfV panicD IntKind.bits allU2 List.take_of_length_le List.range_succ
attribute [local irreducible] V G H HD HD2 HD4 HD4h RetX RunK Eff CallP CallV EndOK Fun Ret FinOK LoopI LoopW EndW
theorem short_fun (a b : Exp) (vars : List Var) : Fun Tryd.prog 4 [eagg a, eagg b, .u (varsU vars)] (· = .u (.bool true)) := by
  have h0 := small_fun
  have h1 := few_fun [] vars
  have h2 := fewExp_fun a
  have h3 := fewExp_fun b
  have h4 := value_fun [] vars a
  have h5 := value_fun [] vars b
  simp only [eagg, letsU, varsU, List.map_nil] at h1 h2 h3 h4 h5 ⊢
  cases hf1 : few17 [] vars with
  | false =>
    rw [hf1] at h1
    (refine Fun.of_bodyW Tryd.func4 rfl (by simp) fun Γ hn => ?_); simp only [entry, List.zipIdx_cons, List.zipIdx_nil, List.map_cons, List.map_nil, Nat.zero_add, Tryd.ntmps4]
    repeat' (first
    | (refine H_cons ?_; simp)
    | (refine H_nil ?_; simp)
    | (refine V_sseq ?_; simp)
    | (refine V_scond ?_; simp)
    | (refine V_ret ?_; simp only [RunK])
    | (refine CallP.fun_ (h0) (by first | rfl | fail) (by first | assumption | (simp; done) | fail) (by first | (simp; done) | (simp; rfl) | fail) (by first | (simp; done) | fail) (fun d hd => ?_); subst hd; (try simp))
    | (refine CallP.fun_ (h1) (by first | rfl | fail) (by first | assumption | (simp; done) | fail) (by first | (simp; done) | (simp; rfl) | fail) (by first | (simp; done) | fail) (fun d hd => ?_); subst hd; (try simp))
    | fail)
    refine EndW.here ?_
    (refine EndOK.val (.inr rfl) ?_; simp [resD, oneOrTup, pureD, Tryd.results4])
  | true =>
  cases hf2 : fewE a with
  | false =>
    rw [hf1] at h1
    rw [hf2] at h2
    (refine Fun.of_bodyW Tryd.func4 rfl (by simp) fun Γ hn => ?_); simp only [entry, List.zipIdx_cons, List.zipIdx_nil, List.map_cons, List.map_nil, Nat.zero_add, Tryd.ntmps4]
    repeat' (first
    | (refine H_cons ?_; simp)
    | (refine H_nil ?_; simp)
    | (refine V_sseq ?_; simp)
    | (refine V_scond ?_; simp)
    | (refine V_ret ?_; simp only [RunK])
    | (refine CallP.fun_ (h0) (by first | rfl | fail) (by first | assumption | (simp; done) | fail) (by first | (simp; done) | (simp; rfl) | fail) (by first | (simp; done) | fail) (fun d hd => ?_); subst hd; (try simp))
    | (refine CallP.fun_ (h1) (by first | rfl | fail) (by first | assumption | (simp; done) | fail) (by first | (simp; done) | (simp; rfl) | fail) (by first | (simp; done) | fail) (fun d hd => ?_); subst hd; (try simp))
    | (refine CallP.fun_ (h2) (by first | rfl | fail) (by first | assumption | (simp; done) | fail) (by first | (simp; done) | (simp; rfl) | fail) (by first | (simp; done) | fail) (fun d hd => ?_); subst hd; (try simp))
    | fail)
    refine EndW.here ?_
    (refine EndOK.val (.inr rfl) ?_; simp [resD, oneOrTup, pureD, Tryd.results4])
  | true =>
  cases hf3 : fewE b with
  | false =>
    rw [hf1] at h1
    rw [hf2] at h2
    rw [hf3] at h3
    (refine Fun.of_bodyW Tryd.func4 rfl (by simp) fun Γ hn => ?_); simp only [entry, List.zipIdx_cons, List.zipIdx_nil, List.map_cons, List.map_nil, Nat.zero_add, Tryd.ntmps4]
    repeat' (first
    | (refine H_cons ?_; simp)
    | (refine H_nil ?_; simp)
    | (refine V_sseq ?_; simp)
    | (refine V_scond ?_; simp)
    | (refine V_ret ?_; simp only [RunK])
    | (refine CallP.fun_ (h0) (by first | rfl | fail) (by first | assumption | (simp; done) | fail) (by first | (simp; done) | (simp; rfl) | fail) (by first | (simp; done) | fail) (fun d hd => ?_); subst hd; (try simp))
    | (refine CallP.fun_ (h1) (by first | rfl | fail) (by first | assumption | (simp; done) | fail) (by first | (simp; done) | (simp; rfl) | fail) (by first | (simp; done) | fail) (fun d hd => ?_); subst hd; (try simp))
    | (refine CallP.fun_ (h2) (by first | rfl | fail) (by first | assumption | (simp; done) | fail) (by first | (simp; done) | (simp; rfl) | fail) (by first | (simp; done) | fail) (fun d hd => ?_); subst hd; (try simp))
    | (refine CallP.fun_ (h3) (by first | rfl | fail) (by first | assumption | (simp; done) | fail) (by first | (simp; done) | (simp; rfl) | fail) (by first | (simp; done) | fail) (fun d hd => ?_); subst hd; (try simp))
    | fail)
    refine EndW.here ?_
    (refine EndOK.val (.inr rfl) ?_; simp [resD, oneOrTup, pureD, Tryd.results4])
  | true =>
  rw [hf1] at h1
  rw [hf2] at h2
  rw [hf3] at h3
  rcases hva : valueP [] vars a with ⟨n, e⟩
  rcases hvb : valueP [] vars b with ⟨m, f⟩
  rw [hva] at h4
  rw [hvb] at h5
  simp only at h4 h5
  (refine Fun.of_bodyW Tryd.func4 rfl (by simp) fun Γ hn => ?_); simp only [entry, List.zipIdx_cons, List.zipIdx_nil, List.map_cons, List.map_nil, Nat.zero_add, Tryd.ntmps4]
  repeat' (first
    | (refine H_cons ?_; simp)
    | (refine H_nil ?_; simp)
    | (refine V_sseq ?_; simp)
    | (refine V_scond ?_; simp)
    | (refine V_sblock ?_; simp)
    | (refine V_skip ?_; simp only [RunK])
    | (refine CallP.fun_ (h0) (by first | rfl | fail) (by first | assumption | (simp; done) | fail) (by first | (simp; done) | (simp; rfl) | fail) (by first | (simp; done) | fail) (fun d hd => ?_); subst hd; (try simp))
    | (refine CallP.fun_ (h1) (by first | rfl | fail) (by first | assumption | (simp; done) | fail) (by first | (simp; done) | (simp; rfl) | fail) (by first | (simp; done) | fail) (fun d hd => ?_); subst hd; (try simp))
    | (refine CallP.fun_ (h2) (by first | rfl | fail) (by first | assumption | (simp; done) | fail) (by first | (simp; done) | (simp; rfl) | fail) (by first | (simp; done) | fail) (fun d hd => ?_); subst hd; (try simp))
    | (refine CallP.fun_ (h3) (by first | rfl | fail) (by first | assumption | (simp; done) | fail) (by first | (simp; done) | (simp; rfl) | fail) (by first | (simp; done) | fail) (fun d hd => ?_); subst hd; (try simp))
    | (refine CallP.fun_ (h4) (by first | rfl | fail) (by first | assumption | (simp; done) | fail) (by first | (simp; done) | (simp; rfl) | fail) (by first | (simp; done) | fail) (fun d hd => ?_); subst hd; (try simp))
    | (refine CallP.fun_ (h5) (by first | rfl | fail) (by first | assumption | (simp; done) | fail) (by first | (simp; done) | (simp; rfl) | fail) (by first | (simp; done) | fail) (fun d hd => ?_); subst hd; (try simp))
    | fail)
  refine V_wk _ (Wk.normV _) ?_
  simp [St.normV, normVOb, normD, normU, norm1]
  (refine V_frzN 7 ?_; simp [frzN, frz1, frz_env, frz_obs, St.frz, St.frzS, frzS, fv, fzVec, fzMap, fzBox, frzObS, frz_entD, frz_rowsD, del, frz, frzOb])
  refine V_loopO (α := { i : Nat // i ≤ 4 }) [2, 7, 8, 9, 10, 11, 14, 15] (fun i => [(16, .u (.int .i64 i.1))]) (fun _ => []) 0 (fun i => 4 - i.1) ⟨0, by omega⟩ ?_ ?_
  · exact (Wk.cut rfl (by simp [hn, St.lp]) (by simp [wkO, St.lp, getK_cons, getK, Ob.under, D.under, under_rowsD, under_entD]) (by simp [wkU, St.lp, keepE, getK_cons, getK, D.under]) (by simp [wkE, St.lp, keepE, getK_cons, getK] <;> (try (intros; simp_all; done)) <;> (try (intros; omega)) <;> (try grind)))
  rintro ⟨i, hi⟩
  simp [St.lp, St.only, keepE, getK_cons, getK]
  rcases i with _ | _ | _ | _ | i
  · have hx := value_fun [] vars (.mk 13 0 0 [] [a, b, badE])
    have hr := rightExp_fun (.mk 13 0 0 [] [a, b, badE])
    generalize hV : valueP [] vars (.mk 13 0 0 [] [a, b, badE]) = w at hx
    generalize hR : rightB 12 (.mk 13 0 0 [] [a, b, badE]) = R at hr
    simp only [eagg, letsU, varsU, List.map_nil, List.map_cons, mk_op, mk_n, mk_unit, mk_s, mk_args, badE, Exp.row, Exp.row_eq a, Exp.row_eq b] at hx hr
    cases R with
    | false =>
      repeat' (first
    | (refine H_cons ?_; simp)
    | (refine HD4_val rfl ?_; simp)
    | (refine HD4_chg rfl ?_; simp)
    | (refine H_nil ?_; simp)
    | (refine V_sseq ?_; simp)
    | (refine V_scond ?_; simp)
    | (refine HD4_nil (hC _ (by kernel_rfl)) (hk _ ?_); clear hC hk C k; simp only [RunK])
    | (refine V_drawX rfl (by kernel_rfl) (by first | (simp [hn]; done) | (simp [hn]; omega) | fail) fun C k hC hk => ?_; simp)
    | (refine V_sregion ?_; simp)
    | (refine V_skip ?_; simp only [RunK])
    | (refine V_exit ?_; simp [RunK])
    | (refine CallP.fun_ (hx) (by first | rfl | fail) (by first | assumption | (simp; done) | fail) (by first | (simp; done) | (simp; rfl) | fail) (by first | (simp; done) | fail) (fun d hd => ?_); subst hd; (try simp))
    | (refine CallP.fun_ (hr) (by first | rfl | fail) (by first | assumption | (simp; done) | fail) (by first | (simp; done) | (simp; rfl) | fail) (by first | (simp; done) | fail) (fun d hd => ?_); subst hd; (try simp))
    | fail)
      refine LoopW.next ⟨1, by omega⟩ (by simp) ?_
      exact (Wk.cut rfl (by simp [hn, St.lp]) (by simp [wkO, St.lp, getK_cons, getK, Ob.under, D.under, under_rowsD, under_entD]) (by simp [wkU, St.lp, keepE, getK_cons, getK, D.under]) (by simp [wkE, St.lp, keepE, getK_cons, getK] <;> (try (intros; simp_all; done)) <;> (try (intros; omega)) <;> (try grind)))
    | true =>
      by_cases he1 : e = 1
      case pos =>
        repeat' (first
    | (refine H_cons ?_; simp [he1])
    | (refine HD4_val rfl ?_; simp [he1])
    | (refine HD4_chg rfl ?_; simp [he1])
    | (refine H_nil ?_; simp [he1])
    | (refine V_sseq ?_; simp [he1])
    | (refine V_scond ?_; simp [he1])
    | (refine HD4_nil (hC _ (by kernel_rfl)) (hk _ ?_); clear hC hk C k; simp only [RunK])
    | (refine V_drawX rfl (by kernel_rfl) (by first | (simp [hn]; done) | (simp [hn]; omega) | fail) fun C k hC hk => ?_; simp [he1])
    | (refine V_sregion ?_; simp [he1])
    | (refine V_skip ?_; simp only [RunK])
    | (refine V_exit ?_; simp [RunK])
    | (refine CallP.fun_ (hx) (by first | rfl | fail) (by first | assumption | (simp; done) | fail) (by first | (simp [he1]; done) | (simp [he1]; rfl) | fail) (by first | (simp; done) | fail) (fun d hd => ?_); subst hd; (try simp [he1]))
    | (refine CallP.fun_ (hr) (by first | rfl | fail) (by first | assumption | (simp; done) | fail) (by first | (simp [he1]; done) | (simp [he1]; rfl) | fail) (by first | (simp; done) | fail) (fun d hd => ?_); subst hd; (try simp [he1]))
    | fail)
        refine LoopW.next ⟨1, by omega⟩ (by simp) ?_
        exact (Wk.cut rfl (by simp [hn, St.lp]) (by simp [wkO, St.lp, getK_cons, getK, Ob.under, D.under, under_rowsD, under_entD]) (by simp [wkU, St.lp, keepE, getK_cons, getK, D.under]) (by simp [wkE, St.lp, keepE, getK_cons, getK] <;> (try (intros; simp_all; done)) <;> (try (intros; omega)) <;> (try grind)))
      by_cases hg1 : f = 1
      case pos =>
        repeat' (first
    | (refine H_cons ?_; simp [he1, hg1])
    | (refine HD4_val rfl ?_; simp [he1, hg1])
    | (refine HD4_chg rfl ?_; simp [he1, hg1])
    | (refine H_nil ?_; simp [he1, hg1])
    | (refine V_sseq ?_; simp [he1, hg1])
    | (refine V_scond ?_; simp [he1, hg1])
    | (refine HD4_nil (hC _ (by kernel_rfl)) (hk _ ?_); clear hC hk C k; simp only [RunK])
    | (refine V_drawX rfl (by kernel_rfl) (by first | (simp [hn]; done) | (simp [hn]; omega) | fail) fun C k hC hk => ?_; simp [he1, hg1])
    | (refine V_sregion ?_; simp [he1, hg1])
    | (refine V_skip ?_; simp only [RunK])
    | (refine V_exit ?_; simp [RunK])
    | (refine CallP.fun_ (hx) (by first | rfl | fail) (by first | assumption | (simp; done) | fail) (by first | (simp [he1, hg1]; done) | (simp [he1, hg1]; rfl) | fail) (by first | (simp; done) | fail) (fun d hd => ?_); subst hd; (try simp [he1, hg1]))
    | (refine CallP.fun_ (hr) (by first | rfl | fail) (by first | assumption | (simp; done) | fail) (by first | (simp [he1, hg1]; done) | (simp [he1, hg1]; rfl) | fail) (by first | (simp; done) | fail) (fun d hd => ?_); subst hd; (try simp [he1, hg1]))
    | fail)
        refine LoopW.next ⟨1, by omega⟩ (by simp) ?_
        exact (Wk.cut rfl (by simp [hn, St.lp]) (by simp [wkO, St.lp, getK_cons, getK, Ob.under, D.under, under_rowsD, under_entD]) (by simp [wkU, St.lp, keepE, getK_cons, getK, D.under]) (by simp [wkE, St.lp, keepE, getK_cons, getK] <;> (try (intros; simp_all; done)) <;> (try (intros; omega)) <;> (try grind)))
      rw [short_if1 hva hvb he1 hg1 rfl hR] at hV
      by_cases he0 : e = 0
      · by_cases hn0 : n = 0
        all_goals
          rw [if_neg (by simp [he0])] at hV
          simp only [hn0, if_true, if_false, ne_eq, not_true_eq_false, not_false_eq_true] at hV
          subst hV
          simp only at hx
          repeat' (first
    | (refine H_cons ?_; simp [he0, he1, hg1, hn0])
    | (refine HD4_val rfl ?_; simp [he0, he1, hg1, hn0])
    | (refine HD4_chg rfl ?_; simp [he0, he1, hg1, hn0])
    | (refine H_nil ?_; simp [he0, he1, hg1, hn0])
    | (refine V_sseq ?_; simp [he0, he1, hg1, hn0])
    | (refine V_scond ?_; simp [he0, he1, hg1, hn0])
    | (refine HD4_nil (hC _ (by kernel_rfl)) (hk _ ?_); clear hC hk C k; simp only [RunK])
    | (refine V_drawX rfl (by kernel_rfl) (by first | (simp [hn]; done) | (simp [hn]; omega) | fail) fun C k hC hk => ?_; simp [he0, he1, hg1, hn0])
    | (refine V_sregion ?_; simp [he0, he1, hg1, hn0])
    | (refine V_skip ?_; simp only [RunK])
    | (refine CallP.fun_ (hx) (by first | rfl | fail) (by first | assumption | (simp; done) | fail) (by first | (simp [he0, he1, hg1, hn0]; done) | (simp [he0, he1, hg1, hn0]; rfl) | fail) (by first | (simp; done) | fail) (fun d hd => ?_); subst hd; (try simp [he0, he1, hg1, hn0]))
    | (refine CallP.fun_ (hr) (by first | rfl | fail) (by first | assumption | (simp; done) | fail) (by first | (simp [he0, he1, hg1, hn0]; done) | (simp [he0, he1, hg1, hn0]; rfl) | fail) (by first | (simp; done) | fail) (fun d hd => ?_); subst hd; (try simp [he0, he1, hg1, hn0]))
    | fail)
          refine LoopW.next ⟨1, by omega⟩ (by simp) ?_
          exact (Wk.cut rfl (by simp [hn, St.lp]) (by simp [wkO, St.lp, getK_cons, getK, Ob.under, D.under, under_rowsD, under_entD]) (by simp [wkU, St.lp, keepE, getK_cons, getK, D.under]) (by simp [wkE, St.lp, keepE, getK_cons, getK] <;> (try (intros; simp_all; done)) <;> (try (intros; omega)) <;> (try grind)))
      · rw [if_pos he0] at hV
        subst hV
        simp only at hx
        repeat' (first
    | (refine H_cons ?_; simp [he0, he1, hg1])
    | (refine HD4_val rfl ?_; simp [he0, he1, hg1])
    | (refine HD4_chg rfl ?_; simp [he0, he1, hg1])
    | (refine H_nil ?_; simp [he0, he1, hg1])
    | (refine V_sseq ?_; simp [he0, he1, hg1])
    | (refine V_scond ?_; simp [he0, he1, hg1])
    | (refine HD4_nil (hC _ (by kernel_rfl)) (hk _ ?_); clear hC hk C k; simp only [RunK])
    | (refine V_drawX rfl (by kernel_rfl) (by first | (simp [hn]; done) | (simp [hn]; omega) | fail) fun C k hC hk => ?_; simp [he0, he1, hg1])
    | (refine V_sregion ?_; simp [he0, he1, hg1])
    | (refine V_skip ?_; simp only [RunK])
    | (refine V_exit ?_; simp [RunK])
    | (refine CallP.fun_ (hx) (by first | rfl | fail) (by first | assumption | (simp; done) | fail) (by first | (simp [he0, he1, hg1]; done) | (simp [he0, he1, hg1]; rfl) | fail) (by first | (simp; done) | fail) (fun d hd => ?_); subst hd; (try simp [he0, he1, hg1]))
    | (refine CallP.fun_ (hr) (by first | rfl | fail) (by first | assumption | (simp; done) | fail) (by first | (simp [he0, he1, hg1]; done) | (simp [he0, he1, hg1]; rfl) | fail) (by first | (simp; done) | fail) (fun d hd => ?_); subst hd; (try simp [he0, he1, hg1]))
    | fail)
        refine LoopW.next ⟨1, by omega⟩ (by simp) ?_
        exact (Wk.cut rfl (by simp [hn, St.lp]) (by simp [wkO, St.lp, getK_cons, getK, Ob.under, D.under, under_rowsD, under_entD]) (by simp [wkU, St.lp, keepE, getK_cons, getK, D.under]) (by simp [wkE, St.lp, keepE, getK_cons, getK] <;> (try (intros; simp_all; done)) <;> (try (intros; omega)) <;> (try grind)))
  · have hx := value_fun [] vars (.mk 13 0 0 [] [a, badE, b])
    have hr := rightExp_fun (.mk 13 0 0 [] [a, badE, b])
    generalize hV : valueP [] vars (.mk 13 0 0 [] [a, badE, b]) = w at hx
    generalize hR : rightB 12 (.mk 13 0 0 [] [a, badE, b]) = R at hr
    simp only [eagg, letsU, varsU, List.map_nil, List.map_cons, mk_op, mk_n, mk_unit, mk_s, mk_args, badE, Exp.row, Exp.row_eq a, Exp.row_eq b] at hx hr
    cases R with
    | false =>
      repeat' (first
    | (refine H_cons ?_; simp)
    | (refine HD4_val rfl ?_; simp)
    | (refine HD4_chg rfl ?_; simp)
    | (refine H_nil ?_; simp)
    | (refine V_sseq ?_; simp)
    | (refine V_scond ?_; simp)
    | (refine HD4_nil (hC _ (by kernel_rfl)) (hk _ ?_); clear hC hk C k; simp only [RunK])
    | (refine V_drawX rfl (by kernel_rfl) (by first | (simp [hn]; done) | (simp [hn]; omega) | fail) fun C k hC hk => ?_; simp)
    | (refine V_sregion ?_; simp)
    | (refine V_skip ?_; simp only [RunK])
    | (refine V_exit ?_; simp [RunK])
    | (refine CallP.fun_ (hx) (by first | rfl | fail) (by first | assumption | (simp; done) | fail) (by first | (simp; done) | (simp; rfl) | fail) (by first | (simp; done) | fail) (fun d hd => ?_); subst hd; (try simp))
    | (refine CallP.fun_ (hr) (by first | rfl | fail) (by first | assumption | (simp; done) | fail) (by first | (simp; done) | (simp; rfl) | fail) (by first | (simp; done) | fail) (fun d hd => ?_); subst hd; (try simp))
    | fail)
      refine LoopW.next ⟨2, by omega⟩ (by simp) ?_
      exact (Wk.cut rfl (by simp [hn, St.lp]) (by simp [wkO, St.lp, getK_cons, getK, Ob.under, D.under, under_rowsD, under_entD]) (by simp [wkU, St.lp, keepE, getK_cons, getK, D.under]) (by simp [wkE, St.lp, keepE, getK_cons, getK] <;> (try (intros; simp_all; done)) <;> (try (intros; omega)) <;> (try grind)))
    | true =>
      by_cases he1 : e = 1
      case pos =>
        repeat' (first
    | (refine H_cons ?_; simp [he1])
    | (refine HD4_val rfl ?_; simp [he1])
    | (refine HD4_chg rfl ?_; simp [he1])
    | (refine H_nil ?_; simp [he1])
    | (refine V_sseq ?_; simp [he1])
    | (refine V_scond ?_; simp [he1])
    | (refine HD4_nil (hC _ (by kernel_rfl)) (hk _ ?_); clear hC hk C k; simp only [RunK])
    | (refine V_drawX rfl (by kernel_rfl) (by first | (simp [hn]; done) | (simp [hn]; omega) | fail) fun C k hC hk => ?_; simp [he1])
    | (refine V_sregion ?_; simp [he1])
    | (refine V_skip ?_; simp only [RunK])
    | (refine V_exit ?_; simp [RunK])
    | (refine CallP.fun_ (hx) (by first | rfl | fail) (by first | assumption | (simp; done) | fail) (by first | (simp [he1]; done) | (simp [he1]; rfl) | fail) (by first | (simp; done) | fail) (fun d hd => ?_); subst hd; (try simp [he1]))
    | (refine CallP.fun_ (hr) (by first | rfl | fail) (by first | assumption | (simp; done) | fail) (by first | (simp [he1]; done) | (simp [he1]; rfl) | fail) (by first | (simp; done) | fail) (fun d hd => ?_); subst hd; (try simp [he1]))
    | fail)
        refine LoopW.next ⟨2, by omega⟩ (by simp) ?_
        exact (Wk.cut rfl (by simp [hn, St.lp]) (by simp [wkO, St.lp, getK_cons, getK, Ob.under, D.under, under_rowsD, under_entD]) (by simp [wkU, St.lp, keepE, getK_cons, getK, D.under]) (by simp [wkE, St.lp, keepE, getK_cons, getK] <;> (try (intros; simp_all; done)) <;> (try (intros; omega)) <;> (try grind)))
      by_cases hg1 : f = 1
      case pos =>
        repeat' (first
    | (refine H_cons ?_; simp [he1, hg1])
    | (refine HD4_val rfl ?_; simp [he1, hg1])
    | (refine HD4_chg rfl ?_; simp [he1, hg1])
    | (refine H_nil ?_; simp [he1, hg1])
    | (refine V_sseq ?_; simp [he1, hg1])
    | (refine V_scond ?_; simp [he1, hg1])
    | (refine HD4_nil (hC _ (by kernel_rfl)) (hk _ ?_); clear hC hk C k; simp only [RunK])
    | (refine V_drawX rfl (by kernel_rfl) (by first | (simp [hn]; done) | (simp [hn]; omega) | fail) fun C k hC hk => ?_; simp [he1, hg1])
    | (refine V_sregion ?_; simp [he1, hg1])
    | (refine V_skip ?_; simp only [RunK])
    | (refine V_exit ?_; simp [RunK])
    | (refine CallP.fun_ (hx) (by first | rfl | fail) (by first | assumption | (simp; done) | fail) (by first | (simp [he1, hg1]; done) | (simp [he1, hg1]; rfl) | fail) (by first | (simp; done) | fail) (fun d hd => ?_); subst hd; (try simp [he1, hg1]))
    | (refine CallP.fun_ (hr) (by first | rfl | fail) (by first | assumption | (simp; done) | fail) (by first | (simp [he1, hg1]; done) | (simp [he1, hg1]; rfl) | fail) (by first | (simp; done) | fail) (fun d hd => ?_); subst hd; (try simp [he1, hg1]))
    | fail)
        refine LoopW.next ⟨2, by omega⟩ (by simp) ?_
        exact (Wk.cut rfl (by simp [hn, St.lp]) (by simp [wkO, St.lp, getK_cons, getK, Ob.under, D.under, under_rowsD, under_entD]) (by simp [wkU, St.lp, keepE, getK_cons, getK, D.under]) (by simp [wkE, St.lp, keepE, getK_cons, getK] <;> (try (intros; simp_all; done)) <;> (try (intros; omega)) <;> (try grind)))
      rw [short_if2 hva hvb he1 hg1 rfl hR] at hV
      by_cases he0 : e = 0
      · by_cases hn0 : n = 0
        all_goals
          rw [if_neg (by simp [he0])] at hV
          simp only [hn0, if_true, if_false, ne_eq, not_true_eq_false, not_false_eq_true] at hV
          subst hV
          simp only at hx
          repeat' (first
    | (refine H_cons ?_; simp [he0, he1, hg1, hn0])
    | (refine HD4_val rfl ?_; simp [he0, he1, hg1, hn0])
    | (refine HD4_chg rfl ?_; simp [he0, he1, hg1, hn0])
    | (refine H_nil ?_; simp [he0, he1, hg1, hn0])
    | (refine V_sseq ?_; simp [he0, he1, hg1, hn0])
    | (refine V_scond ?_; simp [he0, he1, hg1, hn0])
    | (refine HD4_nil (hC _ (by kernel_rfl)) (hk _ ?_); clear hC hk C k; simp only [RunK])
    | (refine V_drawX rfl (by kernel_rfl) (by first | (simp [hn]; done) | (simp [hn]; omega) | fail) fun C k hC hk => ?_; simp [he0, he1, hg1, hn0])
    | (refine V_sregion ?_; simp [he0, he1, hg1, hn0])
    | (refine V_skip ?_; simp only [RunK])
    | (refine CallP.fun_ (hx) (by first | rfl | fail) (by first | assumption | (simp; done) | fail) (by first | (simp [he0, he1, hg1, hn0]; done) | (simp [he0, he1, hg1, hn0]; rfl) | fail) (by first | (simp; done) | fail) (fun d hd => ?_); subst hd; (try simp [he0, he1, hg1, hn0]))
    | (refine CallP.fun_ (hr) (by first | rfl | fail) (by first | assumption | (simp; done) | fail) (by first | (simp [he0, he1, hg1, hn0]; done) | (simp [he0, he1, hg1, hn0]; rfl) | fail) (by first | (simp; done) | fail) (fun d hd => ?_); subst hd; (try simp [he0, he1, hg1, hn0]))
    | fail)
          refine LoopW.next ⟨2, by omega⟩ (by simp) ?_
          exact (Wk.cut rfl (by simp [hn, St.lp]) (by simp [wkO, St.lp, getK_cons, getK, Ob.under, D.under, under_rowsD, under_entD]) (by simp [wkU, St.lp, keepE, getK_cons, getK, D.under]) (by simp [wkE, St.lp, keepE, getK_cons, getK] <;> (try (intros; simp_all; done)) <;> (try (intros; omega)) <;> (try grind)))
      · rw [if_pos he0] at hV
        subst hV
        simp only at hx
        repeat' (first
    | (refine H_cons ?_; simp [he0, he1, hg1])
    | (refine HD4_val rfl ?_; simp [he0, he1, hg1])
    | (refine HD4_chg rfl ?_; simp [he0, he1, hg1])
    | (refine H_nil ?_; simp [he0, he1, hg1])
    | (refine V_sseq ?_; simp [he0, he1, hg1])
    | (refine V_scond ?_; simp [he0, he1, hg1])
    | (refine HD4_nil (hC _ (by kernel_rfl)) (hk _ ?_); clear hC hk C k; simp only [RunK])
    | (refine V_drawX rfl (by kernel_rfl) (by first | (simp [hn]; done) | (simp [hn]; omega) | fail) fun C k hC hk => ?_; simp [he0, he1, hg1])
    | (refine V_sregion ?_; simp [he0, he1, hg1])
    | (refine V_skip ?_; simp only [RunK])
    | (refine V_exit ?_; simp [RunK])
    | (refine CallP.fun_ (hx) (by first | rfl | fail) (by first | assumption | (simp; done) | fail) (by first | (simp [he0, he1, hg1]; done) | (simp [he0, he1, hg1]; rfl) | fail) (by first | (simp; done) | fail) (fun d hd => ?_); subst hd; (try simp [he0, he1, hg1]))
    | (refine CallP.fun_ (hr) (by first | rfl | fail) (by first | assumption | (simp; done) | fail) (by first | (simp [he0, he1, hg1]; done) | (simp [he0, he1, hg1]; rfl) | fail) (by first | (simp; done) | fail) (fun d hd => ?_); subst hd; (try simp [he0, he1, hg1]))
    | fail)
        refine LoopW.next ⟨2, by omega⟩ (by simp) ?_
        exact (Wk.cut rfl (by simp [hn, St.lp]) (by simp [wkO, St.lp, getK_cons, getK, Ob.under, D.under, under_rowsD, under_entD]) (by simp [wkU, St.lp, keepE, getK_cons, getK, D.under]) (by simp [wkE, St.lp, keepE, getK_cons, getK] <;> (try (intros; simp_all; done)) <;> (try (intros; omega)) <;> (try grind)))
  · have hx := value_fun [] vars (.mk 10 0 0 [] [a, badE])
    have hr := rightExp_fun (.mk 10 0 0 [] [a, badE])
    generalize hV : valueP [] vars (.mk 10 0 0 [] [a, badE]) = w at hx
    generalize hR : rightB 12 (.mk 10 0 0 [] [a, badE]) = R at hr
    simp only [eagg, letsU, varsU, List.map_nil, List.map_cons, mk_op, mk_n, mk_unit, mk_s, mk_args, badE, Exp.row, Exp.row_eq a, Exp.row_eq b] at hx hr
    cases R with
    | false =>
      repeat' (first
    | (refine H_cons ?_; simp)
    | (refine HD4_val rfl ?_; simp)
    | (refine HD4_chg rfl ?_; simp)
    | (refine H_nil ?_; simp)
    | (refine V_sseq ?_; simp)
    | (refine V_scond ?_; simp)
    | (refine HD4_nil (hC _ (by kernel_rfl)) (hk _ ?_); clear hC hk C k; simp only [RunK])
    | (refine V_drawX rfl (by kernel_rfl) (by first | (simp [hn]; done) | (simp [hn]; omega) | fail) fun C k hC hk => ?_; simp)
    | (refine V_sregion ?_; simp)
    | (refine V_skip ?_; simp only [RunK])
    | (refine V_exit ?_; simp [RunK])
    | (refine CallP.fun_ (hx) (by first | rfl | fail) (by first | assumption | (simp; done) | fail) (by first | (simp; done) | (simp; rfl) | fail) (by first | (simp; done) | fail) (fun d hd => ?_); subst hd; (try simp))
    | (refine CallP.fun_ (hr) (by first | rfl | fail) (by first | assumption | (simp; done) | fail) (by first | (simp; done) | (simp; rfl) | fail) (by first | (simp; done) | fail) (fun d hd => ?_); subst hd; (try simp))
    | fail)
      refine LoopW.next ⟨3, by omega⟩ (by simp) ?_
      exact (Wk.cut rfl (by simp [hn, St.lp]) (by simp [wkO, St.lp, getK_cons, getK, Ob.under, D.under, under_rowsD, under_entD]) (by simp [wkU, St.lp, keepE, getK_cons, getK, D.under]) (by simp [wkE, St.lp, keepE, getK_cons, getK] <;> (try (intros; simp_all; done)) <;> (try (intros; omega)) <;> (try grind)))
    | true =>
      by_cases he1 : e = 1
      case pos =>
        repeat' (first
    | (refine H_cons ?_; simp [he1])
    | (refine HD4_val rfl ?_; simp [he1])
    | (refine HD4_chg rfl ?_; simp [he1])
    | (refine H_nil ?_; simp [he1])
    | (refine V_sseq ?_; simp [he1])
    | (refine V_scond ?_; simp [he1])
    | (refine HD4_nil (hC _ (by kernel_rfl)) (hk _ ?_); clear hC hk C k; simp only [RunK])
    | (refine V_drawX rfl (by kernel_rfl) (by first | (simp [hn]; done) | (simp [hn]; omega) | fail) fun C k hC hk => ?_; simp [he1])
    | (refine V_sregion ?_; simp [he1])
    | (refine V_skip ?_; simp only [RunK])
    | (refine V_exit ?_; simp [RunK])
    | (refine CallP.fun_ (hx) (by first | rfl | fail) (by first | assumption | (simp; done) | fail) (by first | (simp [he1]; done) | (simp [he1]; rfl) | fail) (by first | (simp; done) | fail) (fun d hd => ?_); subst hd; (try simp [he1]))
    | (refine CallP.fun_ (hr) (by first | rfl | fail) (by first | assumption | (simp; done) | fail) (by first | (simp [he1]; done) | (simp [he1]; rfl) | fail) (by first | (simp; done) | fail) (fun d hd => ?_); subst hd; (try simp [he1]))
    | fail)
        refine LoopW.next ⟨3, by omega⟩ (by simp) ?_
        exact (Wk.cut rfl (by simp [hn, St.lp]) (by simp [wkO, St.lp, getK_cons, getK, Ob.under, D.under, under_rowsD, under_entD]) (by simp [wkU, St.lp, keepE, getK_cons, getK, D.under]) (by simp [wkE, St.lp, keepE, getK_cons, getK] <;> (try (intros; simp_all; done)) <;> (try (intros; omega)) <;> (try grind)))
      by_cases hg1 : f = 1
      case pos =>
        repeat' (first
    | (refine H_cons ?_; simp [he1, hg1])
    | (refine HD4_val rfl ?_; simp [he1, hg1])
    | (refine HD4_chg rfl ?_; simp [he1, hg1])
    | (refine H_nil ?_; simp [he1, hg1])
    | (refine V_sseq ?_; simp [he1, hg1])
    | (refine V_scond ?_; simp [he1, hg1])
    | (refine HD4_nil (hC _ (by kernel_rfl)) (hk _ ?_); clear hC hk C k; simp only [RunK])
    | (refine V_drawX rfl (by kernel_rfl) (by first | (simp [hn]; done) | (simp [hn]; omega) | fail) fun C k hC hk => ?_; simp [he1, hg1])
    | (refine V_sregion ?_; simp [he1, hg1])
    | (refine V_skip ?_; simp only [RunK])
    | (refine V_exit ?_; simp [RunK])
    | (refine CallP.fun_ (hx) (by first | rfl | fail) (by first | assumption | (simp; done) | fail) (by first | (simp [he1, hg1]; done) | (simp [he1, hg1]; rfl) | fail) (by first | (simp; done) | fail) (fun d hd => ?_); subst hd; (try simp [he1, hg1]))
    | (refine CallP.fun_ (hr) (by first | rfl | fail) (by first | assumption | (simp; done) | fail) (by first | (simp [he1, hg1]; done) | (simp [he1, hg1]; rfl) | fail) (by first | (simp; done) | fail) (fun d hd => ?_); subst hd; (try simp [he1, hg1]))
    | fail)
        refine LoopW.next ⟨3, by omega⟩ (by simp) ?_
        exact (Wk.cut rfl (by simp [hn, St.lp]) (by simp [wkO, St.lp, getK_cons, getK, Ob.under, D.under, under_rowsD, under_entD]) (by simp [wkU, St.lp, keepE, getK_cons, getK, D.under]) (by simp [wkE, St.lp, keepE, getK_cons, getK] <;> (try (intros; simp_all; done)) <;> (try (intros; omega)) <;> (try grind)))
      rw [short_and hva he1 rfl hR] at hV
      by_cases he0 : e = 0
      · by_cases hn0 : n = 0
        all_goals
          rw [if_neg (by simp [he0])] at hV
          simp only [hn0, if_true, if_false, ne_eq, not_true_eq_false, not_false_eq_true] at hV
          subst hV
          simp only at hx
          repeat' (first
    | (refine H_cons ?_; simp [he0, he1, hg1, hn0])
    | (refine HD4_val rfl ?_; simp [he0, he1, hg1, hn0])
    | (refine HD4_chg rfl ?_; simp [he0, he1, hg1, hn0])
    | (refine H_nil ?_; simp [he0, he1, hg1, hn0])
    | (refine V_sseq ?_; simp [he0, he1, hg1, hn0])
    | (refine V_scond ?_; simp [he0, he1, hg1, hn0])
    | (refine HD4_nil (hC _ (by kernel_rfl)) (hk _ ?_); clear hC hk C k; simp only [RunK])
    | (refine V_drawX rfl (by kernel_rfl) (by first | (simp [hn]; done) | (simp [hn]; omega) | fail) fun C k hC hk => ?_; simp [he0, he1, hg1, hn0])
    | (refine V_sregion ?_; simp [he0, he1, hg1, hn0])
    | (refine V_skip ?_; simp only [RunK])
    | (refine CallP.fun_ (hx) (by first | rfl | fail) (by first | assumption | (simp; done) | fail) (by first | (simp [he0, he1, hg1, hn0]; done) | (simp [he0, he1, hg1, hn0]; rfl) | fail) (by first | (simp; done) | fail) (fun d hd => ?_); subst hd; (try simp [he0, he1, hg1, hn0]))
    | (refine CallP.fun_ (hr) (by first | rfl | fail) (by first | assumption | (simp; done) | fail) (by first | (simp [he0, he1, hg1, hn0]; done) | (simp [he0, he1, hg1, hn0]; rfl) | fail) (by first | (simp; done) | fail) (fun d hd => ?_); subst hd; (try simp [he0, he1, hg1, hn0]))
    | fail)
          refine LoopW.next ⟨3, by omega⟩ (by simp) ?_
          exact (Wk.cut rfl (by simp [hn, St.lp]) (by simp [wkO, St.lp, getK_cons, getK, Ob.under, D.under, under_rowsD, under_entD]) (by simp [wkU, St.lp, keepE, getK_cons, getK, D.under]) (by simp [wkE, St.lp, keepE, getK_cons, getK] <;> (try (intros; simp_all; done)) <;> (try (intros; omega)) <;> (try grind)))
      · rw [if_pos he0] at hV
        subst hV
        simp only at hx
        repeat' (first
    | (refine H_cons ?_; simp [he0, he1, hg1])
    | (refine HD4_val rfl ?_; simp [he0, he1, hg1])
    | (refine HD4_chg rfl ?_; simp [he0, he1, hg1])
    | (refine H_nil ?_; simp [he0, he1, hg1])
    | (refine V_sseq ?_; simp [he0, he1, hg1])
    | (refine V_scond ?_; simp [he0, he1, hg1])
    | (refine HD4_nil (hC _ (by kernel_rfl)) (hk _ ?_); clear hC hk C k; simp only [RunK])
    | (refine V_drawX rfl (by kernel_rfl) (by first | (simp [hn]; done) | (simp [hn]; omega) | fail) fun C k hC hk => ?_; simp [he0, he1, hg1])
    | (refine V_sregion ?_; simp [he0, he1, hg1])
    | (refine V_skip ?_; simp only [RunK])
    | (refine V_exit ?_; simp [RunK])
    | (refine CallP.fun_ (hx) (by first | rfl | fail) (by first | assumption | (simp; done) | fail) (by first | (simp [he0, he1, hg1]; done) | (simp [he0, he1, hg1]; rfl) | fail) (by first | (simp; done) | fail) (fun d hd => ?_); subst hd; (try simp [he0, he1, hg1]))
    | (refine CallP.fun_ (hr) (by first | rfl | fail) (by first | assumption | (simp; done) | fail) (by first | (simp [he0, he1, hg1]; done) | (simp [he0, he1, hg1]; rfl) | fail) (by first | (simp; done) | fail) (fun d hd => ?_); subst hd; (try simp [he0, he1, hg1]))
    | fail)
        refine LoopW.next ⟨3, by omega⟩ (by simp) ?_
        exact (Wk.cut rfl (by simp [hn, St.lp]) (by simp [wkO, St.lp, getK_cons, getK, Ob.under, D.under, under_rowsD, under_entD]) (by simp [wkU, St.lp, keepE, getK_cons, getK, D.under]) (by simp [wkE, St.lp, keepE, getK_cons, getK] <;> (try (intros; simp_all; done)) <;> (try (intros; omega)) <;> (try grind)))
  · have hx := value_fun [] vars (.mk 11 0 0 [] [a, badE])
    have hr := rightExp_fun (.mk 11 0 0 [] [a, badE])
    generalize hV : valueP [] vars (.mk 11 0 0 [] [a, badE]) = w at hx
    generalize hR : rightB 12 (.mk 11 0 0 [] [a, badE]) = R at hr
    simp only [eagg, letsU, varsU, List.map_nil, List.map_cons, mk_op, mk_n, mk_unit, mk_s, mk_args, badE, Exp.row, Exp.row_eq a, Exp.row_eq b] at hx hr
    cases R with
    | false =>
      repeat' (first
    | (refine H_cons ?_; simp)
    | (refine HD4_val rfl ?_; simp)
    | (refine HD4_chg rfl ?_; simp)
    | (refine H_nil ?_; simp)
    | (refine V_sseq ?_; simp)
    | (refine V_scond ?_; simp)
    | (refine HD4_nil (hC _ (by kernel_rfl)) (hk _ ?_); clear hC hk C k; simp only [RunK])
    | (refine V_drawX rfl (by kernel_rfl) (by first | (simp [hn]; done) | (simp [hn]; omega) | fail) fun C k hC hk => ?_; simp)
    | (refine V_sregion ?_; simp)
    | (refine V_skip ?_; simp only [RunK])
    | (refine V_exit ?_; simp [RunK])
    | (refine CallP.fun_ (hx) (by first | rfl | fail) (by first | assumption | (simp; done) | fail) (by first | (simp; done) | (simp; rfl) | fail) (by first | (simp; done) | fail) (fun d hd => ?_); subst hd; (try simp))
    | (refine CallP.fun_ (hr) (by first | rfl | fail) (by first | assumption | (simp; done) | fail) (by first | (simp; done) | (simp; rfl) | fail) (by first | (simp; done) | fail) (fun d hd => ?_); subst hd; (try simp))
    | fail)
      refine LoopW.next ⟨4, by omega⟩ (by simp) ?_
      exact (Wk.cut rfl (by simp [hn, St.lp]) (by simp [wkO, St.lp, getK_cons, getK, Ob.under, D.under, under_rowsD, under_entD]) (by simp [wkU, St.lp, keepE, getK_cons, getK, D.under]) (by simp [wkE, St.lp, keepE, getK_cons, getK] <;> (try (intros; simp_all; done)) <;> (try (intros; omega)) <;> (try grind)))
    | true =>
      by_cases he1 : e = 1
      case pos =>
        repeat' (first
    | (refine H_cons ?_; simp [he1])
    | (refine HD4_val rfl ?_; simp [he1])
    | (refine HD4_chg rfl ?_; simp [he1])
    | (refine H_nil ?_; simp [he1])
    | (refine V_sseq ?_; simp [he1])
    | (refine V_scond ?_; simp [he1])
    | (refine HD4_nil (hC _ (by kernel_rfl)) (hk _ ?_); clear hC hk C k; simp only [RunK])
    | (refine V_drawX rfl (by kernel_rfl) (by first | (simp [hn]; done) | (simp [hn]; omega) | fail) fun C k hC hk => ?_; simp [he1])
    | (refine V_sregion ?_; simp [he1])
    | (refine V_skip ?_; simp only [RunK])
    | (refine V_exit ?_; simp [RunK])
    | (refine CallP.fun_ (hx) (by first | rfl | fail) (by first | assumption | (simp; done) | fail) (by first | (simp [he1]; done) | (simp [he1]; rfl) | fail) (by first | (simp; done) | fail) (fun d hd => ?_); subst hd; (try simp [he1]))
    | (refine CallP.fun_ (hr) (by first | rfl | fail) (by first | assumption | (simp; done) | fail) (by first | (simp [he1]; done) | (simp [he1]; rfl) | fail) (by first | (simp; done) | fail) (fun d hd => ?_); subst hd; (try simp [he1]))
    | fail)
        refine LoopW.next ⟨4, by omega⟩ (by simp) ?_
        exact (Wk.cut rfl (by simp [hn, St.lp]) (by simp [wkO, St.lp, getK_cons, getK, Ob.under, D.under, under_rowsD, under_entD]) (by simp [wkU, St.lp, keepE, getK_cons, getK, D.under]) (by simp [wkE, St.lp, keepE, getK_cons, getK] <;> (try (intros; simp_all; done)) <;> (try (intros; omega)) <;> (try grind)))
      by_cases hg1 : f = 1
      case pos =>
        repeat' (first
    | (refine H_cons ?_; simp [he1, hg1])
    | (refine HD4_val rfl ?_; simp [he1, hg1])
    | (refine HD4_chg rfl ?_; simp [he1, hg1])
    | (refine H_nil ?_; simp [he1, hg1])
    | (refine V_sseq ?_; simp [he1, hg1])
    | (refine V_scond ?_; simp [he1, hg1])
    | (refine HD4_nil (hC _ (by kernel_rfl)) (hk _ ?_); clear hC hk C k; simp only [RunK])
    | (refine V_drawX rfl (by kernel_rfl) (by first | (simp [hn]; done) | (simp [hn]; omega) | fail) fun C k hC hk => ?_; simp [he1, hg1])
    | (refine V_sregion ?_; simp [he1, hg1])
    | (refine V_skip ?_; simp only [RunK])
    | (refine V_exit ?_; simp [RunK])
    | (refine CallP.fun_ (hx) (by first | rfl | fail) (by first | assumption | (simp; done) | fail) (by first | (simp [he1, hg1]; done) | (simp [he1, hg1]; rfl) | fail) (by first | (simp; done) | fail) (fun d hd => ?_); subst hd; (try simp [he1, hg1]))
    | (refine CallP.fun_ (hr) (by first | rfl | fail) (by first | assumption | (simp; done) | fail) (by first | (simp [he1, hg1]; done) | (simp [he1, hg1]; rfl) | fail) (by first | (simp; done) | fail) (fun d hd => ?_); subst hd; (try simp [he1, hg1]))
    | fail)
        refine LoopW.next ⟨4, by omega⟩ (by simp) ?_
        exact (Wk.cut rfl (by simp [hn, St.lp]) (by simp [wkO, St.lp, getK_cons, getK, Ob.under, D.under, under_rowsD, under_entD]) (by simp [wkU, St.lp, keepE, getK_cons, getK, D.under]) (by simp [wkE, St.lp, keepE, getK_cons, getK] <;> (try (intros; simp_all; done)) <;> (try (intros; omega)) <;> (try grind)))
      rw [short_or hva he1 rfl hR] at hV
      by_cases he0 : e = 0
      · by_cases hn0 : n = 0
        all_goals
          rw [if_neg (by simp [he0])] at hV
          simp only [hn0, if_true, if_false, ne_eq, not_true_eq_false, not_false_eq_true] at hV
          subst hV
          simp only at hx
          repeat' (first
    | (refine H_cons ?_; simp [he0, he1, hg1, hn0])
    | (refine HD4_val rfl ?_; simp [he0, he1, hg1, hn0])
    | (refine HD4_chg rfl ?_; simp [he0, he1, hg1, hn0])
    | (refine H_nil ?_; simp [he0, he1, hg1, hn0])
    | (refine V_sseq ?_; simp [he0, he1, hg1, hn0])
    | (refine V_scond ?_; simp [he0, he1, hg1, hn0])
    | (refine HD4_nil (hC _ (by kernel_rfl)) (hk _ ?_); clear hC hk C k; simp only [RunK])
    | (refine V_drawX rfl (by kernel_rfl) (by first | (simp [hn]; done) | (simp [hn]; omega) | fail) fun C k hC hk => ?_; simp [he0, he1, hg1, hn0])
    | (refine V_sregion ?_; simp [he0, he1, hg1, hn0])
    | (refine V_skip ?_; simp only [RunK])
    | (refine CallP.fun_ (hx) (by first | rfl | fail) (by first | assumption | (simp; done) | fail) (by first | (simp [he0, he1, hg1, hn0]; done) | (simp [he0, he1, hg1, hn0]; rfl) | fail) (by first | (simp; done) | fail) (fun d hd => ?_); subst hd; (try simp [he0, he1, hg1, hn0]))
    | (refine CallP.fun_ (hr) (by first | rfl | fail) (by first | assumption | (simp; done) | fail) (by first | (simp [he0, he1, hg1, hn0]; done) | (simp [he0, he1, hg1, hn0]; rfl) | fail) (by first | (simp; done) | fail) (fun d hd => ?_); subst hd; (try simp [he0, he1, hg1, hn0]))
    | fail)
          refine LoopW.next ⟨4, by omega⟩ (by simp) ?_
          exact (Wk.cut rfl (by simp [hn, St.lp]) (by simp [wkO, St.lp, getK_cons, getK, Ob.under, D.under, under_rowsD, under_entD]) (by simp [wkU, St.lp, keepE, getK_cons, getK, D.under]) (by simp [wkE, St.lp, keepE, getK_cons, getK] <;> (try (intros; simp_all; done)) <;> (try (intros; omega)) <;> (try grind)))
      · rw [if_pos he0] at hV
        subst hV
        simp only at hx
        repeat' (first
    | (refine H_cons ?_; simp [he0, he1, hg1])
    | (refine HD4_val rfl ?_; simp [he0, he1, hg1])
    | (refine HD4_chg rfl ?_; simp [he0, he1, hg1])
    | (refine H_nil ?_; simp [he0, he1, hg1])
    | (refine V_sseq ?_; simp [he0, he1, hg1])
    | (refine V_scond ?_; simp [he0, he1, hg1])
    | (refine HD4_nil (hC _ (by kernel_rfl)) (hk _ ?_); clear hC hk C k; simp only [RunK])
    | (refine V_drawX rfl (by kernel_rfl) (by first | (simp [hn]; done) | (simp [hn]; omega) | fail) fun C k hC hk => ?_; simp [he0, he1, hg1])
    | (refine V_sregion ?_; simp [he0, he1, hg1])
    | (refine V_skip ?_; simp only [RunK])
    | (refine V_exit ?_; simp [RunK])
    | (refine CallP.fun_ (hx) (by first | rfl | fail) (by first | assumption | (simp; done) | fail) (by first | (simp [he0, he1, hg1]; done) | (simp [he0, he1, hg1]; rfl) | fail) (by first | (simp; done) | fail) (fun d hd => ?_); subst hd; (try simp [he0, he1, hg1]))
    | (refine CallP.fun_ (hr) (by first | rfl | fail) (by first | assumption | (simp; done) | fail) (by first | (simp [he0, he1, hg1]; done) | (simp [he0, he1, hg1]; rfl) | fail) (by first | (simp; done) | fail) (fun d hd => ?_); subst hd; (try simp [he0, he1, hg1]))
    | fail)
        refine LoopW.next ⟨4, by omega⟩ (by simp) ?_
        exact (Wk.cut rfl (by simp [hn, St.lp]) (by simp [wkO, St.lp, getK_cons, getK, Ob.under, D.under, under_rowsD, under_entD]) (by simp [wkU, St.lp, keepE, getK_cons, getK, D.under]) (by simp [wkE, St.lp, keepE, getK_cons, getK] <;> (try (intros; simp_all; done)) <;> (try (intros; omega)) <;> (try grind)))
  · obtain rfl : i = 0 := by omega
    repeat' (first
    | (refine H_cons ?_; simp)
    | (refine H_nil ?_; simp)
    | (refine V_sseq ?_; simp)
    | (refine V_scond ?_; simp)
    | (refine V_ret ?_; simp only [RunK])
    | (refine V_exit ?_; simp [RunK])
    | fail)
    refine EndW.here ?_
    (refine EndOK.val (.inr rfl) ?_; simp [resD, oneOrTup, pureD, Tryd.results4])
end Go.Proofs.YtfcopibncpkdoaaDoor
