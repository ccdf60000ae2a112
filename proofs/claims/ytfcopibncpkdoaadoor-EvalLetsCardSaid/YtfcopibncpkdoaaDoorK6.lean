/- Texts joined by a program of mine: Es Et Fi Fn Fp Fu Fv Fw Fx. -/
import Derived.Test.YtfcopibncpkdoaaDoorK5
set_option linter.all false
set_option maxRecDepth 100000
set_option maxHeartbeats 8000000
namespace Go.Proofs.YtfcopibncpkdoaaDoor
open Go Go.VL
attribute [local simp] HS hcons hstep evPure opd uOf putOK St.put St.at getK binD binI binS binB nilD aggD eqUs cmpK lookD lookR rangeD nextD entryD keyD valU keyU lookK mkV entD_nil lookK_entD updK_entD1 updK_entD3 allUE allUE_entD makeMapD mapUpdD mapEff updK valM Key.kk shiftI arith unD convD pickD loadD cellsAt fieldAddrD fieldD indexAddrD indexD sliceD cutD lenD minmaxD nilCheckD buildD fillD cellsD isOne ones setAll mkAgg allU allocD boxD storeD St.add buildSliceD appendD rowsOf makeD setOb getK_setOb getK_del getK_cons stripL strip guardTmp entry chunks zcells valD argsV argsW argW argU1 argU0 argsU0 argsU1 calleeOf scalarD scalarU delAll effD St.effS RK_seq RK_seq_ret RK_seq_exit RK_blk RK_blk_ret RK_blk_exit RK_loop RK_loop_ret RK_loop_exit RK_done vs_seq vs_block vs_cond vs_region vs_loop vs_draw applyW mkD rdIds lentIds callOf calleeOf freeOp D.ids Op.operands Call.operands isEffOp makeIfD typeAssertD conc concs conc1 uOfV panicD IntKind.bits allU2 allU2_append List.take_of_length_le List.range_succ
attribute [local irreducible] V G H HD HD2 HD4 HD4h RetX RunK Eff CallP CallV EndOK Fun Ret FinOK LoopI LoopW EndW
abbrev expOb0 : Ob := .box [.u (.int .i64 0), .u (.int .i64 0), .u (.int .i64 0), .u (.str []), .u .nil]
theorem pdef_pan (i j q nx : Nat) (hi : i < nx) (hj : j < nx) (hq : q < nx) (hij : i ≠ j) (hiq : i ≠ q) (hjq : j ≠ q) (p e pos err : Int) (a b c : Int) (t : List UInt8) (g : U) :
    RetDf Tryd.prog 39 [.ptr i 0, .ptr j 0, .ptr q 0] [(i, .box [.u (.int .i64 p)]), (j, .box [.u (.int .i64 e)]), (q, .box [.u (.int .i64 a), .u (.int .i64 b), .u (.int .i64 c), .u (.str t), .u g])] nx (.panicking (chP pos err))
      (fun u o n => settle u = .returning ∧ n = nx ∧ o = [(i, .box [.u (.int .i64 pos)]), (j, .box [.u (.int .i64 err)]), (q, expOb0)]) := by
  have hne := ne_facts hi
  have hne2 := ne_facts hj
  have hne3 := ne_facts hq
  have hc0 := caught_stop i j nx hi hj hij p e pos err
  refine RetDf.of_body Tryd.func39 rfl (by simp) (by simp) rfl fun Γ hn => ?_
  simp [entry, recU, chP, Tryd.ntmps39]
  refine CallP.x2 hc0 (by simp [getK]) (by simp [getK, hij, Ne.symm hij]) hij rfl rfl (by simp) (by simp) (fun d o1 nx' hnx h => ?_) (fun ch o1 nx' hnx h => by cases h.1)
  obtain ⟨h1, rfl, h4⟩ := h
  have h4 := h4.symm
  subst h4
  cases h1
  simp [del, hij, Ne.symm hij, hiq, hjq, Ne.symm hiq, Ne.symm hjq]
  repeat' (first
    | (refine H_cons ?_; simp [hij, hiq, hjq])
    | (refine H_nil ?_; simp [hij, hiq, hjq])
    | (refine V_scond ?_; simp [hij, hiq, hjq])
    | (refine V_sregion ?_; simp [hij, hiq, hjq])
    | fail)
  (refine ⟨by simp, { n := _, env := [], obs := [(i, .box [.u (.int .i64 pos)]), (j, .box [.u (.int .i64 err)]), (q, expOb0)], next := nx }, (Wk.cut rfl (by simp [hn]) (by simp [wkO, getK_cons, getK, getK_append, getK_del, Ob.under, D.under, under_rowsD, under_entD, hi, hj, hq, hne, hne2, hne3, hij, hiq, hjq, Ne.symm hij, Ne.symm hiq, Ne.symm hjq]) (by simp [wkU, keepE, getK_cons, getK, D.under, hi, hj, hq, hne, hne2, hne3, hij, hiq, hjq, Ne.symm hij, Ne.symm hiq, Ne.symm hjq]) (by simp [wkE, keepE, getK_cons, getK, hi, hj, hq, hne, hne2, hne3, hij, hiq, hjq, Ne.symm hij, Ne.symm hiq, Ne.symm hjq])), by simp [hn], ?_⟩; try simp)
  all_goals rfl
theorem lexF_ok {s : List UInt8} : ∀ (f p : Nat) (l : List Tok), lexF f s p = .ok l → s.length < p + f → p ≤ s.length →
    (∀ (i : Nat) (t : Tok), l[i]? = some t → t.kind ≠ 0 → i + 1 < l.length) ∧ l.length ≤ s.length - p + 1 ∧ 0 < l.length
  | 0, p, l, _, h2, h3 => by omega
  | f + 1, p, l, h, h2, h3 => by
    rw [lexF] at h
    have hle := spanL_le isBlank (s.drop p)
    rw [List.length_drop] at hle
    split at h
    · cases h
      refine ⟨fun i t hi hk => ?_, by simp, by simp⟩
      rcases i with _ | i
      · simp at hi
        subst hi
        exact absurd rfl hk
      · simp at hi
    · rename_i c r hd
      have hdl : (s.drop (p + spanL isBlank (s.drop p))).length = r.length + 1 := by rw [hd]; rfl
      rw [List.length_drop] at hdl
      split at h
      · cases h
      · rename_i t ht
        obtain ⟨ht1, ht2⟩ := nextO_text ht
        simp only [List.length_cons] at ht2
        split at h
        · cases h
        · rename_i l' hl'
          cases h
          obtain ⟨g1, g2, g3⟩ := lexF_ok f _ l' hl' (by omega) (by omega)
          refine ⟨fun i t' hi hk => ?_, by simp only [List.length_cons]; omega, by simp⟩
          rcases i with _ | i
          · simp; exact g3
          · simp only [List.getElem?_cons_succ] at hi
            have := g1 i t' hi hk
            simp only [List.length_cons]
            omega
theorem lexL_ok {s : List UInt8} {l : List Tok} (h : lexL s = .ok l) : TokOK l ∧ l.length ≤ 2001 ∧ 0 < l.length := by
  unfold lexL at h
  split at h
  · cases h
  · obtain ⟨g1, g2, g3⟩ := lexF_ok _ _ _ h (by omega) (by omega)
    exact ⟨⟨g1, by omega⟩, by omega, g3⟩
theorem Exp.lev_mk {op n u : Int} {s : List UInt8} {args : List Exp} {B : Int} (h : ∀ x ∈ args, x.lev ≤ B) (h0 : 0 ≤ B) : (Exp.mk op n u s args).lev ≤ B + 1 := by
  rw [Exp.lev_eq]
  simp only [Exp.args]
  have : ∀ (l : List Int) (a : Int), a ≤ B → (∀ x ∈ l, x ≤ B) → l.foldl max a ≤ B := by
    intro l
    induction l with
    | nil => intro a ha _; exact ha
    | cons b l ih => intro a ha hl; exact ih _ (by have := hl b (by simp); omega) fun x hx => hl x (by simp [hx])
  have := this (args.map Exp.lev) 0 h0 (fun x hx => by obtain ⟨y, hy, rfl⟩ := List.mem_map.1 hx; exact h y hy)
  omega
theorem parse_lev {l : List Tok} : ∀ (f : Nat),
    (∀ p form e q, expP l f p form = .ok e q → e.lev ≤ f * f + 1) ∧
    (∀ form e own p e' q, loopP l f form e own p = .ok e' q → e'.lev ≤ max e.lev (f * f + 1) + f) ∧
    (∀ p form e q, prefixP l f p form = .ok e q → e.1.lev ≤ f * f + 1) ∧
    (∀ p e q, primaryP l f p = .ok e q → e.lev ≤ f * f + 1)
  | 0 => ⟨fun _ _ _ _ h => by simp [expP] at h, fun _ _ _ _ _ _ h => by simp [loopP] at h, fun _ _ _ _ h => by simp [prefixP] at h, fun _ _ _ h => by simp [primaryP] at h⟩
  | f + 1 => by
    obtain ⟨he, hlo, hpr, hpm⟩ := parse_lev f
    have hsq : ((f + 1 : Nat) : Int) * ((f + 1 : Nat) : Int) = (f : Int) * f + 2 * f + 1 := by
      rw [show ((f + 1 : Nat) : Int) = (f : Int) + 1 by omega, Int.add_mul, Int.mul_add]; omega
    rw [hsq]
    have h0 : (0 : Int) ≤ (f : Int) * f := Int.mul_nonneg (by omega) (by omega)
    generalize hF : (f : Int) * f = F at *
    refine ⟨fun p form e q h => ?_, fun form e own p e' q h => ?_, fun p form e q h => ?_, fun p e q h => ?_⟩
    · rw [expP] at h
      obtain ⟨a, r, h1, h2⟩ := PR.bind_out h
      have g1 := hpr _ _ _ _ h1
      have g2 := hlo _ _ _ _ _ _ h2
      omega
    · rw [loopP] at h
      split at h
      · cases h; omega
      · split at h
        · cases h; omega
        · obtain ⟨a, r, h1, h2⟩ := PR.bind_out h
          have g1 := he _ _ _ _ h1
          have g2 := hlo _ _ _ _ _ _ h2
          rename_i x _ _
          have g3 := Exp.lev_mk (op := x.op) (n := 0) (u := 0) (s := []) (args := [e, a]) (B := max e.lev (F + 1)) (by
            intro y hy
            simp only [List.mem_cons, List.not_mem_nil, or_false] at hy
            rcases hy with rfl | rfl <;> omega) (by omega)
          omega
    · rw [prefixP] at h
      split at h
      · obtain ⟨a, r, h1, h⟩ := PR.bind_out h
        obtain ⟨_, r2, h2, h⟩ := PR.bind_out h
        obtain ⟨b, r3, h3, h⟩ := PR.bind_out h
        obtain ⟨_, r4, h4, h⟩ := PR.bind_out h
        obtain ⟨c, r5, h5, h⟩ := PR.bind_out h
        cases h
        have g1 := he _ _ _ _ h1
        have g3 := he _ _ _ _ h3
        have g5 := he _ _ _ _ h5
        have := Exp.lev_mk (op := 13) (n := 0) (u := 0) (s := []) (args := [a, b, c]) (B := F + 1) (by
          intro y hy
          simp only [List.mem_cons, List.not_mem_nil, or_false] at hy
          rcases hy with rfl | rfl | rfl <;> omega) (by omega)
        simp only
        omega
      · split at h
        · obtain ⟨a, r, h1, h⟩ := PR.bind_out h
          cases h
          have g1 := he _ _ _ _ h1
          have := Exp.lev_mk (op := 12) (n := 0) (u := 0) (s := []) (args := [a]) (B := F + 1) (by
            intro y hy
            simp only [List.mem_cons, List.not_mem_nil, or_false] at hy
            rcases hy with rfl; omega) (by omega)
          simp only
          omega
        · obtain ⟨a, r, h1, h⟩ := PR.bind_out h
          cases h
          have g1 := hpm _ _ _ h1
          simp only
          omega
    · have leaf : ∀ (op n u : Int) (s : List UInt8), (Exp.mk op n u s []).lev ≤ F + 2 * f + 1 + 1 := fun op n u s => by
        have := Exp.lev_mk (op := op) (n := n) (u := u) (s := s) (args := []) (B := 0) (by simp) (by omega)
        omega
      rw [primaryP] at h
      split at h
      · cases h
      · split at h
        · obtain ⟨a, r, h1, h⟩ := PR.bind_out h
          cases h; exact leaf ..
        split at h
        · cases h; exact leaf ..
        split at h
        · cases h; exact leaf ..
        split at h
        · obtain ⟨_, r2, h2, h⟩ := PR.bind_out h
          obtain ⟨a, r3, h3, h⟩ := PR.bind_out h
          obtain ⟨_, r4, h4, h⟩ := PR.bind_out h
          obtain ⟨b, r5, h5, h⟩ := PR.bind_out h
          obtain ⟨_, r6, h6, h⟩ := PR.bind_out h
          have g3 := he _ _ _ _ h3
          have g5 := he _ _ _ _ h5
          have := Exp.lev_mk (op := if isB l p [109, 97, 120] = true then 7 else 6) (n := 0) (u := 0) (s := []) (args := [a, b]) (B := F + 1) (by
            intro y hy
            simp only [List.mem_cons, List.not_mem_nil, or_false] at hy
            rcases hy with rfl | rfl <;> omega) (by omega)
          cases h
          omega
        split at h
        · obtain ⟨a, r3, h3, h⟩ := PR.bind_out h
          obtain ⟨_, r4, h4, h⟩ := PR.bind_out h
          cases h
          have g3 := he _ _ _ _ h3
          omega
        split at h
        · cases h; exact leaf ..
        · cases h
def kindAt (l : List Tok) (p : Nat) : Int := match l[p]? with | some t => t.kind | none => 0
def zeroE : Exp := .mk 0 0 0 [] []
/-- What ParseExp returns: the expression, the place, the error. -/
def parseX (s : List UInt8) : Exp × Int × Int := match lexL s with
  | .error (p, e) => (zeroE, p, e)
  | .ok l => match expP l (4 * l.length + 3) 0 0 with
    | .stop pos e => (zeroE, pos, e)
    | .ok y q => if kindAt l q ≠ 0 then (zeroE, posAt l q, 12) else if 12 < y.lev then (zeroE, posAt l q, 6) else (y, 0, 0)

theorem nextO_err {c : UInt8} {r : List UInt8} {e : Int} (h : nextO (c :: r) = .error e) : e ≠ 0 := by
  unfold nextO at h
  simp only at h
  split at h
  · split at h <;> cases h
    omega
  · split at h
    · split at h <;> cases h
      omega
    · split at h <;> cases h
      omega
theorem lexF_err {s : List UInt8} : ∀ (f p : Nat) (q : Nat) (e : Int), lexF f s p = .error (q, e) → p ≤ s.length → e ≠ 0 ∧ q ≤ s.length
  | 0, p, q, e, h, _ => by simp [lexF] at h
  | f + 1, p, q, e, h, h3 => by
    rw [lexF] at h
    have hle := spanL_le isBlank (s.drop p)
    rw [List.length_drop] at hle
    split at h
    · cases h
    · rename_i c r hd
      have hdl : (s.drop (p + spanL isBlank (s.drop p))).length = r.length + 1 := by rw [hd]; rfl
      rw [List.length_drop] at hdl
      split at h
      · rename_i ht
        cases h
        exact ⟨nextO_err ht, by omega⟩
      · rename_i t ht
        obtain ⟨ht1, ht2⟩ := nextO_text ht
        simp only [List.length_cons] at ht2
        split at h
        · rename_i x hx
          cases h
          exact lexF_err f _ q e hx (by omega)
        · cases h
theorem lexL_err {s : List UInt8} {q : Nat} {e : Int} (h : lexL s = .error (q, e)) : e ≠ 0 ∧ q ≤ s.length := by
  unfold lexL at h
  split at h
  · cases h; exact ⟨by decide, by omega⟩
  · exact lexF_err _ _ _ _ h (by omega)
def xOut (r : Exp × Int × Int) : D := .tup [.u (.agg r.1.row), .u (.int .i64 r.2.1), .u (.int .i64 r.2.2)]
theorem parseExp_ret (s : List UInt8) : RetX Tryd.prog 24 [.u (.str s)] [] 0 (fun r o n => r = .val (xOut (parseX s))) := by
  unfold parseX
  cases hlx : lexL s with
  | error pe =>
    obtain ⟨p, e⟩ := pe
    have ho := fun nx => open_err s p e nx hlx
    have he := (lexL_err hlx).1
    simp only
    (refine RetX.of_bodyD Tryd.func24 rfl (by simp) fun Γ hn hdfr hpan hesc => ?_); simp only [entry, List.zipIdx_cons, List.zipIdx_nil, List.map_cons, List.map_nil, Nat.zero_add, Tryd.ntmps24]
    repeat' (first
    | (refine H_cons ?_; simp [he])
    | (refine HD4_val rfl ?_; simp [he])
    | (refine HD4_chg rfl ?_; simp [he])
    | (refine H_nil ?_; simp [he])
    | (refine V_sseq ?_; simp [he])
    | (refine V_scond ?_; simp [he])
    | (refine HD4_nil (hC _ (by kernel_rfl)) (hk _ ?_); clear hC hk C k; simp only [RunK])
    | (refine V_drawX rfl (by kernel_rfl) (by first | (simp [hn]; done) | (simp [hn]; omega) | fail) fun C k hC hk => ?_; simp [he])
    | (refine V_ret ?_; simp only [RunK])
    | (refine CallP.okL (ho _) (by first | (simp [he, getK_cons, getK, getK_append, getK_del, getK_setOb, applyW, del]; done) | fail) (by rfl) (by first | assumption | (simp; done) | fail) (by rfl) (by simp) ?_; (try simp [he, delL, del]))
    | fail)
    refine EndW.norm ?_
    simp [St.norm, normOb, normD, normU, norm1]
    (refine EndW.here ?_; (first | (refine EndOK.fin (.inr rfl) ?_) | (refine EndOK.fin (.inl rfl) ?_)); simp [resD, oneOrTup, Tryd.results24]; refine FinOK.here (by simp) ?_; try simp)
    simp [xOut, Exp.row, zeroE]
  | ok l =>
    obtain ⟨hl, hl2, hl0⟩ := lexL_ok hlx
    have ho := fun nx => open_ok s l nx hlx
    have hE := (parse_all hl (4 * l.length + 3)).1 0 0 3 4 (by omega) hl0 (by omega) (by omega) (by omega)
    simp only
    cases hr : expP l (4 * l.length + 3) 0 0 with
    | stop pos e =>
      simp only [hr] at hE ⊢
      (refine RetX.of_bodyD Tryd.func24 rfl (by simp) fun Γ hn hdfr hpan hesc => ?_); simp only [entry, List.zipIdx_cons, List.zipIdx_nil, List.map_cons, List.map_nil, Nat.zero_add, Tryd.ntmps24]
      rw [hold_defer]
      repeat' (first
    | (refine H_cons ?_; simp)
    | (refine H_nil ?_; simp)
    | (refine V_sseq ?_; simp)
    | (refine V_scond ?_; simp)
    | (refine V_skip ?_; simp only [RunK])
    | (refine CallP.okL (ho _) (by first | (simp [getK_cons, getK, getK_append, getK_del, getK_setOb, applyW, del]; done) | fail) (by rfl) (by first | assumption | (simp; done) | fail) (by rfl) (by simp) ?_; (try simp [delL, del]))
    | fail)
      refine V_defer hesc hdfr rfl (by simp) ?_
      have hn0 := hn
      have hpan0 := hpan
      intro Γ' hn hpan
      simp
      repeat' (first
    | (refine H_cons ?_; simp)
    | (refine V_sseq ?_; simp)
    | (refine CallP.pan1 (hE) (by first | (simp [getK_cons, getK, getK_append, getK_del]; done) | fail) (by rfl) (by first | assumption | (simp; done) | fail) (by rfl) (by simp) ?_; rintro ob' ⟨q', rfl⟩; refine ⟨_, Wk.refl _, ?_⟩)
    | fail)
      refine hpan _ _ ?_
      refine LeaveD.of [(1, .box [.u (.int .i64 0)]), (2, .box [.u (.int .i64 0)]), (0, expOb0)] (by simp [getK_cons, getK, getK_append, getK_del]) (pdef_pan 1 2 0 _ (by simp) (by simp) (by simp) (by decide) (by decide) (by decide) 0 0 _ _ 0 0 0 [] .nil) ?_
      simp only [show Γ.base.n0 = 0 from hn0]
      simp [delL, del]
      refine EndW.norm ?_
      simp [St.norm, normOb, normD, normU, norm1]
      (refine EndW.here ?_; (first | (refine EndOK.fin (.inr rfl) ?_) | (refine EndOK.fin (.inl rfl) ?_)); simp [resD, oneOrTup, Tryd.results24]; refine FinOK.here (by simp) ?_; try simp)
      simp [xOut, Exp.row, zeroE]
    | ok y q =>
      have hEx := exp_ok hE hr
      obtain ⟨g0a, g0b⟩ := (parse_le hl _).1 _ _ _ _ hr hl0
      have hlev := (parse_lev (l := l) _).1 _ _ _ _ hr
      have hlev2 : y.lev ≤ 1000000000 := by
        have h1 : ((4 * l.length + 3 : Nat) : Int) * ((4 * l.length + 3 : Nat) : Int) ≤ 8007 * 8007 := Int.mul_le_mul (by omega) (by omega) (by omega) (by omega)
        omega
      have hlv := levels_all (SizeOf.sizeOf y) y (Nat.le_refl _) hlev2
      rw [Exp.row_eq] at hlv
      obtain ⟨t, ht⟩ : ∃ t, l[q]? = some t := ⟨_, List.getElem?_eq_getElem g0b⟩
      have hnx := pnext_fun l q t ht hl.len
      have hka : kindAt l q = t.kind := by unfold kindAt; rw [ht]
      have hpa : posAt l q = t.pos := by unfold posAt; rw [ht]
      simp only [hka, hpa]
      by_cases hk : t.kind = 0
      · have hc1 := fun nx (h : 3 < nx) => check_ok l q 12 3 nx h
        rw [if_neg (by simp [hk])]
        by_cases hv : 12 < y.lev
        · have hc2 := fun nx (h : 3 < nx) => check_pan l q t 6 3 nx h ht hl.len
          have hv2 : ¬ y.lev ≤ 12 := by omega
          rw [if_pos hv]
          (refine RetX.of_bodyD Tryd.func24 rfl (by simp) fun Γ hn hdfr hpan hesc => ?_); simp only [entry, List.zipIdx_cons, List.zipIdx_nil, List.map_cons, List.map_nil, Nat.zero_add, Tryd.ntmps24]
          rw [hold_defer]
          repeat' (first
    | (refine H_cons ?_; simp)
    | (refine H_nil ?_; simp)
    | (refine V_sseq ?_; simp)
    | (refine V_scond ?_; simp)
    | (refine V_skip ?_; simp only [RunK])
    | (refine CallP.okL (ho _) (by first | (simp [getK_cons, getK, getK_append, getK_del, getK_setOb, applyW, del]; done) | fail) (by rfl) (by first | assumption | (simp; done) | fail) (by rfl) (by simp) ?_; (try simp [delL, del]))
    | fail)
          refine V_defer hesc hdfr rfl (by simp) ?_
          have hn0 := hn
          have hpan0 := hpan
          intro Γ' hn hpan
          simp
          repeat' (first
    | (refine H_cons ?_; simp [hk, hv, hv2, del])
    | (refine H_nil ?_; simp [hk, hv, hv2, del])
    | (refine V_sseq ?_; simp [hk, hv, hv2, del])
    | (refine CallP.fun_ (hlv) (by first | rfl | fail) (by first | assumption | (simp; done) | fail) (by first | (simp [hk, hv, hv2, del]; done) | (simp [hk, hv, hv2, del]; rfl) | fail) (by first | (simp; done) | fail) (fun d hd => ?_); subst hd; (try simp [hk, hv, hv2, del]))
    | (refine CallP.fun_ (hnx) (by first | rfl | fail) (by first | assumption | (simp; done) | fail) (by first | (simp [hk, hv, hv2, del]; done) | (simp [hk, hv, hv2, del]; rfl) | fail) (by first | (simp; done) | fail) (fun d hd => ?_); subst hd; (try simp [hk, hv, hv2, del]))
    | (refine CallP.ok1 (hEx) (by first | (simp [hk, hv, hv2, del, getK_cons, getK, getK_append, getK_del]; done) | fail) (by rfl) (by first | assumption | (simp; done) | fail) (by rfl) (by simp) ?_; (try simp [hk, hv, hv2, del]))
    | (refine CallP.ok1 (hc1 _ (by simp)) (by first | (simp [hk, hv, hv2, del, getK_cons, getK, getK_append, getK_del]; done) | fail) (by rfl) (by first | assumption | (simp; done) | fail) (by rfl) (by simp) ?_; (try simp [hk, hv, hv2, del]))
    | (refine CallP.pan1 (hc2 _ (by simp)) (by first | (simp [hk, hv, hv2, del, getK_cons, getK, getK_append, getK_del]; done) | fail) (by rfl) (by first | assumption | (simp; done) | fail) (by rfl) (by simp) ?_; rintro ob' ⟨q', rfl⟩; refine ⟨_, Wk.refl _, ?_⟩)
    | fail)
          refine hpan _ _ ?_
          refine LeaveD.of [(1, .box [.u (.int .i64 0)]), (2, .box [.u (.int .i64 0)]), (0, expOb0)] (by simp [getK_cons, getK, getK_append, getK_del]) (pdef_pan 1 2 0 _ (by simp) (by simp) (by simp) (by decide) (by decide) (by decide) 0 0 _ _ 0 0 0 [] .nil) ?_
          simp only [show Γ.base.n0 = 0 from hn0]
          simp [delL, del]
          refine EndW.norm ?_
          simp [St.norm, normOb, normD, normU, norm1]
          (refine EndW.here ?_; (first | (refine EndOK.fin (.inr rfl) ?_) | (refine EndOK.fin (.inl rfl) ?_)); simp [resD, oneOrTup, Tryd.results24]; refine FinOK.here (by simp) ?_; try simp)
          simp [xOut, Exp.row, zeroE]
        · have hc2 := fun nx (h : 3 < nx) => check_ok l q 6 3 nx h
          have hv2 : y.lev ≤ 12 := by omega
          rw [if_neg hv]
          (refine RetX.of_bodyD Tryd.func24 rfl (by simp) fun Γ hn hdfr hpan hesc => ?_); simp only [entry, List.zipIdx_cons, List.zipIdx_nil, List.map_cons, List.map_nil, Nat.zero_add, Tryd.ntmps24]
          rw [hold_defer]
          repeat' (first
    | (refine H_cons ?_; simp)
    | (refine H_nil ?_; simp)
    | (refine V_sseq ?_; simp)
    | (refine V_scond ?_; simp)
    | (refine V_skip ?_; simp only [RunK])
    | (refine CallP.okL (ho _) (by first | (simp [getK_cons, getK, getK_append, getK_del, getK_setOb, applyW, del]; done) | fail) (by rfl) (by first | assumption | (simp; done) | fail) (by rfl) (by simp) ?_; (try simp [delL, del]))
    | fail)
          refine V_defer hesc hdfr rfl (by simp) ?_
          have hn0 := hn
          have hpan0 := hpan
          intro Γ' hn hpan
          simp
          repeat' (first
    | (refine H_cons ?_; simp [hk, hv, hv2, del])
    | (refine H_nil ?_; simp [hk, hv, hv2, del])
    | (refine V_sseq ?_; simp [hk, hv, hv2, del])
    | (refine V_ret ?_; simp only [RunK])
    | (refine CallP.fun_ (hlv) (by first | rfl | fail) (by first | assumption | (simp; done) | fail) (by first | (simp [hk, hv, hv2, del]; done) | (simp [hk, hv, hv2, del]; rfl) | fail) (by first | (simp; done) | fail) (fun d hd => ?_); subst hd; (try simp [hk, hv, hv2, del]))
    | (refine CallP.fun_ (hnx) (by first | rfl | fail) (by first | assumption | (simp; done) | fail) (by first | (simp [hk, hv, hv2, del]; done) | (simp [hk, hv, hv2, del]; rfl) | fail) (by first | (simp; done) | fail) (fun d hd => ?_); subst hd; (try simp [hk, hv, hv2, del]))
    | (refine CallP.ok1 (hEx) (by first | (simp [hk, hv, hv2, del, getK_cons, getK, getK_append, getK_del]; done) | fail) (by rfl) (by first | assumption | (simp; done) | fail) (by rfl) (by simp) ?_; (try simp [hk, hv, hv2, del]))
    | (refine CallP.ok1 (hc1 _ (by simp)) (by first | (simp [hk, hv, hv2, del, getK_cons, getK, getK_append, getK_del]; done) | fail) (by rfl) (by first | assumption | (simp; done) | fail) (by rfl) (by simp) ?_; (try simp [hk, hv, hv2, del]))
    | (refine CallP.ok1 (hc2 _ (by simp)) (by first | (simp [hk, hv, hv2, del, getK_cons, getK, getK_append, getK_del]; done) | fail) (by rfl) (by first | assumption | (simp; done) | fail) (by rfl) (by simp) ?_; (try simp [hk, hv, hv2, del]))
    | fail)
          refine ⟨rfl, ?_⟩
          refine LeaveD.of [(1, .box [.u (.int .i64 0)]), (2, .box [.u (.int .i64 0)]), (0, .box ([.int .i64 y.op, .int .i64 y.n, .int .i64 y.unit, .str y.s, .sl (y.args.map Exp.row)].map .u))] (by simp [getK_cons, getK, getK_append, getK_del]) (pdef_ret 1 2 0 _ (by simp) (by simp) (by simp) (by decide) (by decide) (by decide) 0 0 _) ?_
          simp only [show Γ.base.n0 = 0 from hn0]
          simp [delL, del]
          (refine EndW.here ?_; (first | (refine EndOK.fin (.inr rfl) ?_) | (refine EndOK.fin (.inl rfl) ?_)); simp [resD, oneOrTup, Tryd.results24]; refine FinOK.here (by simp) ?_; try simp)
          simp [xOut, Exp.row_eq]
      · have hc1 := fun nx (h : 3 < nx) => check_pan l q t 12 3 nx h ht hl.len
        rw [if_pos hk]
        (refine RetX.of_bodyD Tryd.func24 rfl (by simp) fun Γ hn hdfr hpan hesc => ?_); simp only [entry, List.zipIdx_cons, List.zipIdx_nil, List.map_cons, List.map_nil, Nat.zero_add, Tryd.ntmps24]
        rw [hold_defer]
        repeat' (first
    | (refine H_cons ?_; simp)
    | (refine H_nil ?_; simp)
    | (refine V_sseq ?_; simp)
    | (refine V_scond ?_; simp)
    | (refine V_skip ?_; simp only [RunK])
    | (refine CallP.okL (ho _) (by first | (simp [getK_cons, getK, getK_append, getK_del, getK_setOb, applyW, del]; done) | fail) (by rfl) (by first | assumption | (simp; done) | fail) (by rfl) (by simp) ?_; (try simp [delL, del]))
    | fail)
        refine V_defer hesc hdfr rfl (by simp) ?_
        have hn0 := hn
        have hpan0 := hpan
        intro Γ' hn hpan
        simp
        repeat' (first
    | (refine H_cons ?_; simp [hk, del])
    | (refine H_nil ?_; simp [hk, del])
    | (refine V_sseq ?_; simp [hk, del])
    | (refine CallP.fun_ (hnx) (by first | rfl | fail) (by first | assumption | (simp; done) | fail) (by first | (simp [hk, del]; done) | (simp [hk, del]; rfl) | fail) (by first | (simp; done) | fail) (fun d hd => ?_); subst hd; (try simp [hk, del]))
    | (refine CallP.ok1 (hEx) (by first | (simp [hk, del, getK_cons, getK, getK_append, getK_del]; done) | fail) (by rfl) (by first | assumption | (simp; done) | fail) (by rfl) (by simp) ?_; (try simp [hk, del]))
    | (refine CallP.pan1 (hc1 _ (by simp)) (by first | (simp [hk, del, getK_cons, getK, getK_append, getK_del]; done) | fail) (by rfl) (by first | assumption | (simp; done) | fail) (by rfl) (by simp) ?_; rintro ob' ⟨q', rfl⟩; refine ⟨_, Wk.refl _, ?_⟩)
    | fail)
        refine hpan _ _ ?_
        refine LeaveD.of [(1, .box [.u (.int .i64 0)]), (2, .box [.u (.int .i64 0)]), (0, expOb0)] (by simp [getK_cons, getK, getK_append, getK_del]) (pdef_pan 1 2 0 _ (by simp) (by simp) (by simp) (by decide) (by decide) (by decide) 0 0 _ _ 0 0 0 [] .nil) ?_
        simp only [show Γ.base.n0 = 0 from hn0]
        simp [delL, del]
        refine EndW.norm ?_
        simp [St.norm, normOb, normD, normU, norm1]
        (refine EndW.here ?_; (first | (refine EndOK.fin (.inr rfl) ?_) | (refine EndOK.fin (.inl rfl) ?_)); simp [resD, oneOrTup, Tryd.results24]; refine FinOK.here (by simp) ?_; try simp)
        simp [xOut, Exp.row, zeroE]
theorem parseExp_fun (s : List UInt8) : Fun Tryd.prog 24 [.u (.str s)] (· = .tup [eagg (parseX s).1, .u (.int .i64 (parseX s).2.1), .u (.int .i64 (parseX s).2.2)]) := by
  unfold Fun
  exact (parseExp_ret s).ret (fun d o n h => by
    cases h
    refine ⟨by simp [xOut, pureD], ?_⟩
    rw [xOut, Exp.row_eq]
    rfl) (fun ch o n h => by cases h)
end Go.Proofs.YtfcopibncpkdoaaDoor
namespace Go.Proofs.YtfcopibncpkdoaaDoor
open Go Go.VL
mutual
def levS : Exp → Int
  | .mk _ _ _ _ args => levsS args + 1
def levsS : List Exp → Int
  | [] => 0
  | e :: l => max (levS e) (levsS l)
end
theorem foldl_max_cons (l : List Int) (a : Int) (ha : 0 ≤ a) : l.foldl max a = max a (l.foldl max 0) := by
  induction l generalizing a with
  | nil => simp; omega
  | cons b l ih => simp only [List.foldl_cons]; rw [ih (max a b) (by omega), ih (max 0 b) (by omega)]; omega
mutual
theorem levS_eq : ∀ e : Exp, levS e = e.lev
  | .mk op n u s args => by rw [levS, Exp.lev_eq, levsS_eq]; rfl
theorem levsS_eq : ∀ l : List Exp, levsS l = (l.map Exp.lev).foldl max 0
  | [] => by rw [levsS]; rfl
  | e :: l => by
    have := e.lev_pos
    rw [levsS, levS_eq, levsS_eq, List.map_cons, List.foldl_cons, foldl_max_cons (l.map Exp.lev) (max 0 e.lev) (by omega)]
    omega
end
/-- The same az parseX, to be computed with. -/
def parseY (s : List UInt8) : Exp × Int × Int := match lexL s with
  | .error (p, e) => (zeroE, p, e)
  | .ok l => match expP l (4 * l.length + 3) 0 0 with
    | .stop pos e => (zeroE, pos, e)
    | .ok y q => if kindAt l q ≠ 0 then (zeroE, posAt l q, 12) else if 12 < levS y then (zeroE, posAt l q, 6) else (y, 0, 0)
theorem parseX_eq (s : List UInt8) : parseX s = parseY s := by
  unfold parseX parseY
  simp only [levS_eq]
  try rfl
def ofP (s : List UInt8) (vars : List Var) : Int × Int := if (parseY s).2.2 ≠ 0 then (-1, (parseY s).2.2) else valueP [] vars (parseY s).1
attribute [local simp] HS hcons hstep evPure opd uOf putOK St.put St.at getK binD binI binS binB nilD aggD eqUs cmpK lookD lookR rangeD nextD entryD keyD valU keyU lookK mkV entD_nil lookK_entD updK_entD1 updK_entD3 allUE allUE_entD makeMapD mapUpdD mapEff updK valM Key.kk shiftI arith unD convD pickD loadD cellsAt fieldAddrD fieldD indexAddrD indexD sliceD cutD lenD minmaxD nilCheckD buildD fillD cellsD isOne ones setAll mkAgg allU allocD boxD storeD St.add buildSliceD appendD rowsOf makeD setOb getK_setOb getK_del getK_cons stripL strip guardTmp entry chunks zcells valD argsV argsW argW argU1 argU0 argsU0 argsU1 calleeOf scalarD scalarU delAll effD St.effS RK_seq RK_seq_ret RK_seq_exit RK_blk RK_blk_ret RK_blk_exit RK_loop RK_loop_ret RK_loop_exit RK_done vs_seq vs_block vs_cond vs_region vs_loop vs_draw applyW mkD rdIds lentIds callOf calleeOf freeOp D.ids Op.operands Call.operands isEffOp makeIfD typeAssertD conc concs conc1 uOfV panicD IntKind.bits allU2 allU2_append List.take_of_length_le List.range_succ
attribute [local irreducible] V G H HD HD2 HD4 HD4h RetX RunK Eff CallP CallV EndOK Fun Ret FinOK LoopI LoopW EndW
theorem of_fun (s : List UInt8) (vars : List Var) : Fun Tryd.prog 23 [.u (.str s), .u (varsU vars)] (· = .tup [.u (.int .i64 (ofP s vars).1), .u (.int .i64 (ofP s vars).2)]) := by
  have h1 := parseExp_fun s
  rw [parseX_eq] at h1
  have h2 := value_fun [] vars (parseY s).1
  unfold ofP
  generalize hr : parseY s = R at *
  obtain ⟨y, p, er⟩ := R
  simp only at *
  by_cases he : er = 0
  · subst he
    simp only [letsU, varsU, eagg, List.map_nil, ne_eq, not_true_eq_false, if_false] at h1 h2 ⊢
    generalize valueP [] vars y = V at h2 ⊢
    (refine Fun.of_bodyW Tryd.func23 rfl (by simp) fun Γ hn => ?_); simp only [entry, List.zipIdx_cons, List.zipIdx_nil, List.map_cons, List.map_nil, Nat.zero_add, Tryd.ntmps23]
    repeat' (first
    | (refine H_cons ?_; simp)
    | (refine H_nil ?_; simp)
    | (refine V_sseq ?_; simp)
    | (refine V_scond ?_; simp)
    | (refine V_ret ?_; simp only [RunK])
    | (refine V_skip ?_; simp only [RunK])
    | (refine CallP.fun_ (h1) (by first | rfl | fail) (by first | assumption | (simp; done) | fail) (by first | (simp; done) | (simp; rfl) | fail) (by first | (simp; done) | fail) (fun d hd => ?_); subst hd; (try simp))
    | (refine CallP.fun_ (h2) (by first | rfl | fail) (by first | assumption | (simp; done) | fail) (by first | (simp; done) | (simp; rfl) | fail) (by first | (simp; done) | fail) (fun d hd => ?_); subst hd; (try simp))
    | fail)
    refine EndW.here ?_
    (refine EndOK.val (.inr rfl) ?_; simp [resD, oneOrTup, pureD, Tryd.results23])
  · simp only [varsU, eagg, ne_eq, he, not_false_eq_true, if_true] at h1 h2 ⊢
    (refine Fun.of_bodyW Tryd.func23 rfl (by simp) fun Γ hn => ?_); simp only [entry, List.zipIdx_cons, List.zipIdx_nil, List.map_cons, List.map_nil, Nat.zero_add, Tryd.ntmps23]
    repeat' (first
    | (refine H_cons ?_; simp [he])
    | (refine H_nil ?_; simp [he])
    | (refine V_sseq ?_; simp [he])
    | (refine V_scond ?_; simp [he])
    | (refine V_ret ?_; simp only [RunK])
    | (refine CallP.fun_ (h1) (by first | rfl | fail) (by first | assumption | (simp; done) | fail) (by first | (simp [he]; done) | (simp [he]; rfl) | fail) (by first | (simp; done) | fail) (fun d hd => ?_); subst hd; (try simp [he]))
    | fail)
    refine EndW.here ?_
    (refine EndOK.val (.inr rfl) ?_; simp [resD, oneOrTup, pureD, Tryd.results23])
def vPot : Var := ⟨[112, 111, 116], 3, 999⟩
def vY (n : Int) (u : Int) : Var := ⟨[121], u, n⟩
def vBid : Var := ⟨[98, 105, 100], 0, 10⟩
def vMem (n : Int) : Var := ⟨[109, 101, 109, 98, 101, 114, 115], 0, n⟩
def tx1 : List UInt8 := [112, 111, 116, 32, 42, 32, 53, 48, 32, 112, 101, 114, 32, 109, 105, 108, 108, 101, 32, 45, 32, 98, 105, 100, 32, 47, 32, 109, 101, 109, 98, 101, 114, 115]
def tx2 : List UInt8 := [40, 32, 48, 32, 45, 32, 55, 32, 41, 32, 47, 32, 50]
def tx3 : List UInt8 := [105, 102, 32, 109, 101, 109, 98, 101, 114, 115, 32, 61, 61, 32, 48, 32, 116, 104, 101, 110, 32, 48, 32, 99, 111, 105, 110, 115, 32, 101, 108, 115, 101, 32, 112, 111, 116, 32, 47, 32, 109, 101, 109, 98, 101, 114, 115]
def tx4 : List UInt8 := [53, 32, 99, 111, 105, 110, 115]
def tx5 : List UInt8 := [120, 32, 43, 32, 121]
def tx6 : List UInt8 := [122, 32, 43, 32, 49, 32, 99, 111, 105, 110, 115]
def tx7 : List UInt8 := [121, 32, 47, 32, 48]
def tx8 : List UInt8 := [121, 32, 42, 32, 121]
theorem pf1 : ofP tx1 [vPot, vBid, vMem 3] = (46, 0) := by kernel_rfl
theorem pf2 : ofP tx2 [] = (-4, 0) := by kernel_rfl
theorem pf3 : ofP tx3 [vMem 0, vPot] = (0, 0) := by kernel_rfl
theorem pf4 : (parseY tx4).2 = (0, 0) := by kernel_rfl
theorem pf5 : (parseY tx5).2 = (0, 0) := by kernel_rfl
theorem pf6 : (parseY tx6).2 = (0, 0) := by kernel_rfl
theorem pf7 : ofP tx7 [vY 2 3] = (0, 15) := by kernel_rfl
theorem pf8 : ofP tx8 [vY 1073741824 0] = (0, 3) := by kernel_rfl
theorem pfd : valueP [⟨[120], (parseY tx4).1⟩, ⟨[122], (parseY tx5).1⟩] [vY 2 3] (parseY tx6).1 = (8, 0) := by kernel_rfl
theorem of_at {s : List UInt8} {vars : List Var} {r : Int × Int} (h : ofP s vars = r) : Fun Tryd.prog 23 [.u (.str s), .u (.sl (vars.map fun v => [.str v.name, .int .i64 v.unit, .int .i64 v.n]))] (· = .tup [.u (.int .i64 r.1), .u (.int .i64 r.2)]) := by
  subst h
  exact of_fun s vars
theorem parse_at {s : List UInt8} (h : (parseY s).2 = (0, 0)) : Fun Tryd.prog 24 [.u (.str s)] (· = .tup [eagg (parseY s).1, .u (.int .i64 0), .u (.int .i64 0)]) := by
  have h1 := parseExp_fun s
  rw [parseX_eq, h] at h1
  exact h1
theorem small_fun : Fun Tryd.prog 9 [] (· = .u (.bool true)) := by
  have h1 := of_at pf1
  have h2 := of_at pf2
  have h3 := of_at pf3
  have h4 := parse_at pf4
  have h5 := parse_at pf5
  have h6 := parse_at pf6
  have h7 := of_at pf7
  have h8 := of_at pf8
  have h9 := value_fun [⟨[120], (parseY tx4).1⟩, ⟨[122], (parseY tx5).1⟩] [vY 2 3] (parseY tx6).1
  rw [pfd] at h9
  generalize (parseY tx4).1 = e4 at *
  generalize (parseY tx5).1 = e5 at *
  generalize (parseY tx6).1 = e6 at *
  simp only [List.map_cons, List.map_nil, letsU, varsU, eagg, vPot, vBid, vMem, vY, tx1, tx2, tx3, tx4, tx5, tx6, tx7, tx8] at h1 h2 h3 h4 h5 h6 h7 h8 h9
  (refine Fun.of_bodyW Tryd.func9 rfl (by simp) fun Γ hn => ?_); simp only [entry, List.zipIdx_cons, List.zipIdx_nil, List.map_cons, List.map_nil, Nat.zero_add, Tryd.ntmps9]
  repeat' (first
    | (refine H_cons ?_; simp)
    | (refine H_nil ?_; simp)
    | (refine V_sseq ?_; simp)
    | (refine V_ret ?_; simp only [RunK])
    | (refine CallP.fun_ (h1) (by first | rfl | fail) (by first | assumption | (simp; done) | fail) (by first | (simp; done) | (simp; rfl) | fail) (by first | (simp; done) | fail) (fun d hd => ?_); subst hd; (try simp))
    | (refine CallP.fun_ (h2) (by first | rfl | fail) (by first | assumption | (simp; done) | fail) (by first | (simp; done) | (simp; rfl) | fail) (by first | (simp; done) | fail) (fun d hd => ?_); subst hd; (try simp))
    | (refine CallP.fun_ (h3) (by first | rfl | fail) (by first | assumption | (simp; done) | fail) (by first | (simp; done) | (simp; rfl) | fail) (by first | (simp; done) | fail) (fun d hd => ?_); subst hd; (try simp))
    | (refine CallP.fun_ (h4) (by first | rfl | fail) (by first | assumption | (simp; done) | fail) (by first | (simp; done) | (simp; rfl) | fail) (by first | (simp; done) | fail) (fun d hd => ?_); subst hd; (try simp))
    | (refine CallP.fun_ (h5) (by first | rfl | fail) (by first | assumption | (simp; done) | fail) (by first | (simp; done) | (simp; rfl) | fail) (by first | (simp; done) | fail) (fun d hd => ?_); subst hd; (try simp))
    | (refine CallP.fun_ (h6) (by first | rfl | fail) (by first | assumption | (simp; done) | fail) (by first | (simp; done) | (simp; rfl) | fail) (by first | (simp; done) | fail) (fun d hd => ?_); subst hd; (try simp))
    | (refine CallP.fun_ (h7) (by first | rfl | fail) (by first | assumption | (simp; done) | fail) (by first | (simp; done) | (simp; rfl) | fail) (by first | (simp; done) | fail) (fun d hd => ?_); subst hd; (try simp))
    | (refine CallP.fun_ (h8) (by first | rfl | fail) (by first | assumption | (simp; done) | fail) (by first | (simp; done) | (simp; rfl) | fail) (by first | (simp; done) | fail) (fun d hd => ?_); subst hd; (try simp))
    | (refine CallP.fun_ (h9) (by first | rfl | fail) (by first | assumption | (simp; done) | fail) (by first | (simp; done) | (simp; rfl) | fail) (by first | (simp; done) | fail) (fun d hd => ?_); subst hd; (try simp))
    | fail)
  refine EndW.here ?_
  (refine EndOK.val (.inr rfl) ?_; simp [resD, oneOrTup, pureD, Tryd.results9])
end Go.Proofs.YtfcopibncpkdoaaDoor
namespace Go.Proofs.YtfcopibncpkdoaaDoor
open Go Go.VL
attribute [local simp] hcons hstep evPure opd uOf putOK St.put St.at getK binD binI binS binB nilD aggD eqUs cmpK lookD lookR rangeD nextD entryD keyD valU keyU lookK mkV entD_nil lookK_entD updK_entD1 updK_entD3 allUE allUE_entD makeMapD mapUpdD mapEff updK valM Key.kk shiftI arith unD convD pickD loadD cellsAt fieldAddrD fieldD indexAddrD indexD sliceD cutD lenD minmaxD nilCheckD buildD fillD cellsD isOne ones setAll mkAgg allU allocD boxD storeD St.add buildSliceD appendD rowsOf makeD setOb getK_setOb getK_del getK_cons stripL strip guardTmp entry chunks zcells valD argsV argsW argW argU1 argU0 argsU0 argsU1 calleeOf scalarD scalarU delAll effD St.effS RK_seq RK_seq_ret RK_seq_exit RK_blk RK_blk_ret RK_blk_exit RK_loop RK_loop_ret RK_loop_exit RK_done vs_seq vs_block vs_cond vs_region vs_loop vs_draw applyW mkD rdIds lentIds callOf calleeOf freeOp D.ids Op.operands Call.operands isEffOp makeIfD typeAssertD conc concs conc1 uOfV panicD IntKind.bits allU2 allU2_append List.take_of_length_le List.range_succ
attribute [local irreducible] V G H HD HD2 RunK Eff CallP CallV EndOK Fun Ret FinOK LoopI LoopW EndW
def nodesS : Nat → Exp → Int → Int
  | 0, _, most => most + 1
  | L + 1, e, most => if 40 < e.s.length then most + 1 else e.args.foldl (fun n x => if n ≤ most then n + nodesS L x (most - n) else n) 1
theorem nodesS_succ (L : Nat) (e : Exp) (most : Int) : nodesS (L + 1) e most = if 40 < e.s.length then most + 1 else e.args.foldl (fun n x => if n ≤ most then n + nodesS L x (most - n) else n) 1 := by rw [nodesS]
theorem nodes_bound : ∀ (L : Nat) (e : Exp) (most : Int), 0 ≤ most → 1 ≤ nodesS L e most ∧ nodesS L e most ≤ most + 1
  | 0, e, most, h => by rw [nodesS]; omega
  | L + 1, e, most, h => by
    rw [nodesS]
    split
    · omega
    · have : ∀ (l : List Exp) (n : Int), 1 ≤ n → n ≤ most + 1 → 1 ≤ l.foldl (fun n x => if n ≤ most then n + nodesS L x (most - n) else n) n ∧ l.foldl (fun n x => if n ≤ most then n + nodesS L x (most - n) else n) n ≤ most + 1 := by
        intro l
        induction l with
        | nil => intro n h1 h2; exact ⟨h1, h2⟩
        | cons a l ih =>
          intro n h1 h2
          rw [List.foldl_cons]
          split
          · rename_i hn
            have := nodes_bound L a (most - n) (by omega)
            exact ih _ (by omega) (by omega)
          · exact ih n h1 h2
      exact this _ 1 (by omega) (by omega)
theorem foldl_done {L : Nat} {most : Int} : ∀ (l : List Exp) (n : Int), ¬ n ≤ most → l.foldl (fun n x => if n ≤ most then n + nodesS L x (most - n) else n) n = n
  | [], _, _ => rfl
  | a :: l, n, h => by rw [List.foldl_cons, if_neg h]; exact foldl_done l n h
theorem nodes_fun : ∀ (L : Nat) (e : Exp) (most : Int), 0 ≤ most → most ≤ 1000 → (L : Int) ≤ 100 → Fun Tryd.prog 26 [eagg e, .u (.int .i64 most), .u (.int .i64 L)] (· = .u (.int .i64 (nodesS L e most)))
  | 0, e, most, _, _, _ => by
    rw [nodesS]
    (refine Fun.of_body Tryd.func26 rfl (by simp) fun Γ hn => ?_); simp only [entry, List.zipIdx_cons, List.zipIdx_nil, List.map_cons, List.map_nil, Nat.zero_add, Tryd.ntmps26]
    simp only [eagg]
    repeat' (first
    | (refine H_cons ?_; simp)
    | (refine H_nil ?_; simp)
    | (refine ⟨by omega, ?_⟩)
    | (refine V_sseq ?_; simp)
    | (refine V_scond ?_; simp)
    | (refine V_ret ?_; simp only [RunK])
    | fail)
    (refine EndOK.val (.inr rfl) ?_; simp [resD, oneOrTup, pureD, Tryd.results26])
  | L + 1, e, most, h0, h1, hL => by
    rw [nodesS_succ]
    by_cases hs : 40 < e.s.length
    · rw [if_pos hs]
      (refine Fun.of_body Tryd.func26 rfl (by simp) fun Γ hn => ?_); simp only [entry, List.zipIdx_cons, List.zipIdx_nil, List.map_cons, List.map_nil, Nat.zero_add, Tryd.ntmps26]
      simp only [eagg]
      repeat' (first
    | (refine H_cons ?_; simp)
    | (refine H_nil ?_; simp)
    | (refine ⟨by omega, ?_⟩)
    | (refine V_sseq ?_; simp)
    | (refine V_scond ?_; simp)
    | (refine V_ret ?_; simp only [RunK])
    | (refine ⟨?_, by omega⟩)
    | (intro hc <;> (try (exfalso; omega)))
    | fail)
      all_goals first
        | (exfalso; omega)
        | ((refine EndOK.val (.inr rfl) ?_; simp [resD, oneOrTup, pureD, Tryd.results26]); done)
    rw [if_neg hs]
    generalize hg : (e.args.foldl (fun n x => if n ≤ most then n + nodesS L x (most - n) else n) 1) = g
    (refine Fun.of_body Tryd.func26 rfl (by simp) fun Γ hn => ?_); simp only [entry, List.zipIdx_cons, List.zipIdx_nil, List.map_cons, List.map_nil, Nat.zero_add, Tryd.ntmps26]
    simp only [eagg]
    refine V_lenB (x := 0) (j := 4) rfl rfl fun hl => ?_
    simp only [List.length_map] at hl
    repeat' (first
    | (refine H_cons ?_; simp)
    | (refine H_nil ?_; simp)
    | (refine ⟨by omega, ?_⟩)
    | (refine V_sseq ?_; simp)
    | (refine V_scond ?_; simp)
    | (refine V_sblock ?_; simp)
    | (refine V_skip ?_; simp only [RunK])
    | (refine ⟨?_, by omega⟩)
    | (intro hc <;> (try (exfalso; omega)))
    | fail)
    refine V_loopF (α := { p : Nat × Int // p.1 ≤ e.args.length ∧ 1 ≤ p.2 ∧ p.2 ≤ most + 1 ∧ g = (e.args.drop p.1).foldl (fun n x => if n ≤ most then n + nodesS L x (most - n) else n) p.2 }) [1, 2, 3] (fun p => [(7, .u (.int .i64 p.1.2)), (8, .u (.int .i64 p.1.1))]) (fun p => e.args.length - p.1.1) ⟨(0, 1), by simp, by simp, by simp; omega, by simp [hg]⟩ ?_ ?_
    · exact (Wk.cut rfl (by simp [hn, St.lp]) (by simp [wkO, St.lp, getK_cons, getK, Ob.under, D.under, under_rowsD, under_entD]) (by simp [wkU, St.lp, keepE, getK_cons, getK, D.under]) (by simp [wkE, St.lp, keepE, getK_cons, getK] <;> (try (intros; simp_all; done)) <;> (try (intros; omega)) <;> (try grind)))
    rintro ⟨⟨i, n⟩, hi, hn1, hn2, hgn⟩
    simp only at hi hn1 hn2 hgn
    simp [St.lp, St.only, keepE, getK_cons, getK]
    rcases hx : e.args[i]? with _ | x
    · have hge : e.args.length ≤ i := by simpa using hx
      rw [List.drop_of_length_le hge] at hgn
      repeat' (first
    | (refine H_cons ?_; simp [hx])
    | (refine H_nil ?_; simp [hx])
    | (refine ⟨by omega, ?_⟩)
    | (refine V_sseq ?_; simp [hx])
    | (refine V_scond ?_; simp [hx])
    | (refine V_ret ?_; simp only [RunK])
    | (refine V_exit ?_; simp [RunK])
    | (intro hc <;> (try (exfalso; omega)))
    | fail)
      (refine EndOK.val (.inr rfl) ?_; simp [resD, oneOrTup, pureD, Tryd.results26])
      rw [hgn]; rfl
    · have hlt : i < e.args.length := (List.getElem?_eq_some_iff.1 hx).1
      by_cases hm : n ≤ most
      · have h5 := nodes_fun L x (most - n) (by omega) (by omega) (by omega)
        have hb := nodes_bound L x (most - n) (by omega)
        simp only [eagg] at h5
        rw [List.drop_eq_getElem_cons hlt, List.foldl_cons, if_pos hm, (List.getElem?_eq_some_iff.1 hx).2] at hgn
        generalize nodesS L x (most - n) = y at h5 hb hgn
        repeat' (first
    | (refine H_cons ?_; simp [hx, x.row_eq])
    | (refine H_nil ?_; simp [hx, x.row_eq])
    | (refine ⟨by omega, ?_⟩)
    | (refine V_sseq ?_; simp [hx, x.row_eq])
    | (refine V_scond ?_; simp [hx, x.row_eq])
    | (refine V_sregion ?_; simp [hx, x.row_eq])
    | (refine V_skip ?_; simp only [RunK])
    | (refine ⟨?_, by omega⟩)
    | (intro hc <;> (try (exfalso; omega)))
    | (refine CallP.fun_ (h5) (by first | rfl | fail) (by first | assumption | (simp; done) | fail) (by first | (simp [hx, x.row_eq]; done) | (simp [hx, x.row_eq]; rfl) | fail) (by first | (simp; done) | fail) (fun d hd => ?_); subst hd; (try simp [hx, x.row_eq]))
    | fail)
        refine LoopW.next ⟨(i + 1, n + y), (by omega : i + 1 ≤ e.args.length), (by omega : 1 ≤ n + y), (by omega : n + y ≤ most + 1), hgn⟩ (by simp; omega) ?_
        exact (Wk.cut rfl (by simp [hn, St.lp]) (by simp [wkO, St.lp, getK_cons, getK, Ob.under, D.under, under_rowsD, under_entD]) (by simp [wkU, St.lp, keepE, getK_cons, getK, D.under]) (by simp [wkE, St.lp, keepE, getK_cons, getK] <;> (try (intros; simp_all; done)) <;> (try (intros; omega)) <;> (try grind)))
      · rw [foldl_done _ _ hm] at hgn
        repeat' (first
    | (refine H_cons ?_; simp [hx])
    | (refine H_nil ?_; simp [hx])
    | (refine ⟨by omega, ?_⟩)
    | (refine V_sseq ?_; simp [hx])
    | (refine V_scond ?_; simp [hx])
    | (refine V_ret ?_; simp only [RunK])
    | (refine V_exit ?_; simp [RunK])
    | (refine ⟨?_, by omega⟩)
    | (intro hc <;> (try (exfalso; omega)))
    | fail)
        (refine EndOK.val (.inr rfl) ?_; simp [resD, oneOrTup, pureD, Tryd.results26])
        rw [hgn]
def fewE (e : Exp) : Bool := decide (nodesS 14 e 80 ≤ 80)
theorem fewExp_fun (e : Exp) : Fun Tryd.prog 11 [eagg e] (· = .u (.bool (fewE e))) := by
  have h2 := nodes_fun 14 e 80 (by omega) (by omega) (by omega)
  unfold fewE
  simp only [eagg] at h2 ⊢
  generalize nodesS 14 e 80 = y at h2 ⊢
  (refine Fun.of_body Tryd.func11 rfl (by simp) fun Γ hn => ?_); simp only [entry, List.zipIdx_cons, List.zipIdx_nil, List.map_cons, List.map_nil, Nat.zero_add, Tryd.ntmps11]
  repeat' (first
    | (refine H_cons ?_; simp)
    | (refine H_nil ?_; simp)
    | (refine V_sseq ?_; simp)
    | (refine V_ret ?_; simp only [RunK])
    | (refine CallP.fun_ (h2) (by first | rfl | fail) (by first | assumption | (simp; done) | fail) (by first | (simp; done) | (simp; rfl) | fail) (by first | (simp; done) | fail) (fun d hd => ?_); subst hd; (try simp))
    | fail)
  (refine EndOK.val (.inr rfl) ?_; simp [resD, oneOrTup, pureD, Tryd.results11])
mutual
def namesN : Exp → Int
  | .mk op _ _ _ args => (if op = 1 then 1 else 0) + namesNL args
def namesNL : List Exp → Int
  | [] => 0
  | e :: r => namesN e + namesNL r
end
theorem namesN_eq (e : Exp) : namesN e = (if e.op = 1 then 1 else 0) + namesNL e.args := by cases e with | mk op n u s args => rw [namesN]; rfl
mutual
theorem namesN_nonneg : ∀ e : Exp, 0 ≤ namesN e
  | .mk op n u s args => by
    rw [namesN]
    have := namesNL_nonneg args
    split <;> omega
theorem namesNL_nonneg : ∀ l : List Exp, 0 ≤ namesNL l
  | [] => by rw [namesNL]; omega
  | e :: r => by
    rw [namesNL]
    have := namesN_nonneg e
    have := namesNL_nonneg r
    omega
end
theorem namesNL_at {l : List Exp} {i : Nat} {x : Exp} (h : l[i]? = some x) : namesNL (l.take (i + 1)) = namesNL (l.take i) + namesN x := by
  induction l generalizing i with
  | nil => simp at h
  | cons a l ih =>
    cases i with
    | zero => simp at h; subst h; simp [namesNL]
    | succ i => rw [List.take_succ_cons, List.take_succ_cons, namesNL, namesNL, ih (i := i) (by simpa using h)]; omega
theorem namesNL_le {l : List Exp} (i : Nat) : namesNL (l.take i) ≤ namesNL l := by
  induction l generalizing i with
  | nil => simp
  | cons a l ih =>
    cases i with
    | zero => rw [List.take_zero]; have := namesNL_nonneg (a :: l); rw [show namesNL [] = 0 by rw [namesNL]]; exact this
    | succ i => rw [List.take_succ_cons, namesNL, namesNL]; have := ih i; omega
/-- Few nodes: few names. -/
theorem few_names : ∀ (L : Nat) (e : Exp) (most : Int), 0 ≤ most → nodesS L e most ≤ most → namesN e ≤ nodesS L e most
  | 0, e, most, _, h => by rw [nodesS] at h; omega
  | L + 1, e, most, h0, h => by
    rw [nodesS_succ] at h ⊢
    by_cases hs : 40 < e.s.length
    · rw [if_pos hs] at h; omega
    rw [if_neg hs] at h ⊢
    have key : ∀ (l : List Exp) (n : Int), 1 ≤ n → l.foldl (fun n x => if n ≤ most then n + nodesS L x (most - n) else n) n ≤ most → n + namesNL l ≤ l.foldl (fun n x => if n ≤ most then n + nodesS L x (most - n) else n) n := by
      intro l
      induction l with
      | nil => intro n _ _; rw [namesNL]; simp
      | cons a l ih =>
        intro n h1 h2
        rw [List.foldl_cons] at h2 ⊢
        by_cases hn : n ≤ most
        · rw [if_pos hn] at h2 ⊢
          have hb := nodes_bound L a (most - n) (by omega)
          have h3 := ih _ (by omega) h2
          have h4 : n + nodesS L a (most - n) ≤ most := by
            rcases Int.lt_or_le most (n + nodesS L a (most - n)) with h5 | h5
            · rw [foldl_done _ _ (by omega)] at h2; omega
            · exact h5
          have h5 := few_names L a (most - n) (by omega) (by omega)
          rw [namesNL]
          omega
        · rw [if_neg hn, foldl_done _ _ hn] at h2; omega
    have h1 := key e.args 1 (by omega) h
    rw [namesN_eq]
    by_cases h3 : e.op = 1
    · rw [if_pos h3]; omega
    · rw [if_neg h3]; omega
theorem rnames_fun : ∀ (m : Nat) (e : Exp), SizeOf.sizeOf e ≤ m → namesN e ≤ 1000000 → Fun Tryd.prog 25 [eagg e] (· = .u (.int .i64 (namesN e)))
  | 0, e, hm, _ => by cases e; simp at hm
  | m + 1, e, hm, hN => by
    have hch : ∀ x ∈ e.args, SizeOf.sizeOf x ≤ m := fun x hx => by
      cases e with
      | mk op n u s args =>
        have h1 := List.sizeOf_lt_of_mem (show x ∈ args from hx)
        simp at hm
        omega
    rw [namesN_eq] at hN ⊢
    have hnn := namesNL_nonneg e.args
    generalize hk : (if e.op = 1 then (1 : Int) else 0) = k0 at hN ⊢
    have hk01 : 0 ≤ k0 ∧ k0 ≤ 1 := by rw [← hk]; split <;> omega
    (refine Fun.of_body Tryd.func25 rfl (by simp) fun Γ hn => ?_); simp only [entry, List.zipIdx_cons, List.zipIdx_nil, List.map_cons, List.map_nil, Nat.zero_add, Tryd.ntmps25]
    simp only [eagg]
    refine V_lenB (x := 0) (j := 4) rfl rfl fun hl => ?_
    simp only [List.length_map] at hl
    repeat' (first
    | (refine H_cons ?_; simp)
    | (refine H_nil ?_; simp)
    | (refine V_sseq ?_; simp)
    | (refine V_scond ?_; simp)
    | (refine V_sblock ?_; simp)
    | (refine V_sregion ?_; simp)
    | (refine V_skip ?_; simp only [RunK])
    | (refine ⟨fun hc => ?_, fun hc => ?_⟩ <;> (try (exfalso; omega)))
    | fail)
    all_goals
      refine V_loopF (α := { i : Nat // i ≤ e.args.length }) [1] (fun i => [(3, .u (.int .i64 (k0 + namesNL (e.args.take i.1)))), (4, .u (.int .i64 i.1))]) (fun i => e.args.length - i.1) ⟨0, by omega⟩ ?_ ?_
      · exact (Wk.cut rfl (by simp [hn, St.lp]) (by simp [wkO, St.lp, getK_cons, getK, Ob.under, D.under, under_rowsD, under_entD, namesNL]) (by simp [wkU, St.lp, keepE, getK_cons, getK, D.under, namesNL]) (by simp [wkE, St.lp, keepE, getK_cons, getK, namesNL] <;> (try (intros; simp_all; done)) <;> (try (intros; omega)) <;> (try grind)))
      rintro ⟨i, hi⟩
      simp [St.lp, St.only, keepE, getK_cons, getK]
      rcases hx : e.args[i]? with _ | x
      · have hge : e.args.length ≤ i := by simpa using hx
        obtain rfl : i = e.args.length := by omega
        repeat' (first
    | (refine H_cons ?_; simp [hx])
    | (refine H_nil ?_; simp [hx])
    | (refine V_sseq ?_; simp [hx])
    | (refine V_scond ?_; simp [hx])
    | (refine V_ret ?_; simp only [RunK])
    | (refine V_exit ?_; simp [RunK])
    | fail)
        (refine EndOK.val (.inr rfl) ?_; simp [resD, oneOrTup, pureD, Tryd.results25])
      · have hlt : i < e.args.length := (List.getElem?_eq_some_iff.1 hx).1
        have hat := namesNL_at hx
        have hle := namesNL_le (l := e.args) (i + 1)
        have hn0 := namesNL_nonneg (e.args.take i)
        have hnx := namesN_nonneg x
        have h5 := rnames_fun m x (hch x (List.mem_of_getElem? hx)) (by omega)
        simp only [eagg] at h5
        repeat' (first
    | (refine H_cons ?_; simp [hx, x.row_eq])
    | (refine H_nil ?_; simp [hx, x.row_eq])
    | (refine ⟨by omega, ?_⟩)
    | (refine V_sseq ?_; simp [hx, x.row_eq])
    | (refine V_scond ?_; simp [hx, x.row_eq])
    | (refine V_sregion ?_; simp [hx, x.row_eq])
    | (refine V_skip ?_; simp only [RunK])
    | (refine ⟨?_, by omega⟩)
    | (intro hc <;> (try (exfalso; omega)))
    | (refine CallP.fun_ (h5) (by first | rfl | fail) (by first | assumption | (simp; done) | fail) (by first | (simp [hx, x.row_eq]; done) | (simp [hx, x.row_eq]; rfl) | fail) (by first | (simp; done) | fail) (fun d hd => ?_); subst hd; (try simp [hx, x.row_eq]))
    | fail)
        all_goals
          refine LoopW.next ⟨i + 1, by omega⟩ (by simp; omega) ?_
          exact (Wk.cut rfl (by simp [hn, St.lp]) (by simp [wkO, St.lp, getK_cons, getK, Ob.under, D.under, under_rowsD, under_entD, hat, Int.add_assoc]) (by simp [wkU, St.lp, keepE, getK_cons, getK, D.under, hat, Int.add_assoc]) (by simp [wkE, St.lp, keepE, getK_cons, getK, hat, Int.add_assoc] <;> (try (intros; simp_all; done)) <;> (try (intros; omega)) <;> (try grind)))
def fewLG : List Let → Int → Int → Bool
  | [], _, _ => true
  | l :: r, i, p => if i ≤ 22 then (if 40 < l.name.length ∨ fewE l.body = false then false else if 2000 < p * (1 + namesN l.body) then false else fewLG r (i + 1) (p * (1 + namesN l.body))) else true
def fewV (vs : List Var) : Bool := (vs.take 21).all fun v => decide (v.name.length ≤ 40)
def few17 (l : List Let) (vs : List Var) : Bool := fewLG l 0 1 && fewV vs && decide ((l.length : Int) ≤ 22) && decide ((vs.length : Int) ≤ 20)
theorem few_fun (l : List Let) (vs : List Var) : Fun Tryd.prog 10 [.u (letsU l), .u (varsU vs)] (· = .u (.bool (few17 l vs))) := by
  unfold few17
  generalize hB : fewLG l 0 1 = B
  generalize hV : fewV vs = C
  unfold fewV at hV
  (refine Fun.of_body Tryd.func10 rfl (by simp) fun Γ hn => ?_); simp only [entry, List.zipIdx_cons, List.zipIdx_nil, List.map_cons, List.map_nil, Nat.zero_add, Tryd.ntmps10]
  simp only [letsU, varsU]
  refine V_len (x := 0) rfl fun hl => ?_
  refine V_len (x := 1) rfl fun hlv => ?_
  simp only [List.length_map] at hl hlv
  repeat' (first
    | (refine H_cons ?_; simp)
    | (refine H_nil ?_; simp)
    | (refine V_sseq ?_; simp)
    | (refine V_sblock ?_; simp)
    | fail)
  refine V_loopF (α := { q : Nat × Int // q.1 ≤ l.length ∧ (q.1 : Int) ≤ 23 ∧ 1 ≤ q.2 ∧ q.2 ≤ 2000 ∧ B = fewLG (l.drop q.1) q.1 q.2 }) [0, 1] (fun q => [(5, .u (.int .i64 q.1.2)), (6, .u (.int .i64 q.1.1))]) (fun q => l.length - q.1.1) ⟨(0, 1), by omega, by omega, by omega, by omega, by simpa using hB.symm⟩ ?_ ?_
  · exact (Wk.env rfl rfl rfl (by simp [wkE, St.lp, keepE, getK_cons, getK] <;> (try (intros; simp_all; done)) <;> (try (intros; omega)) <;> (try grind)))
  rintro ⟨⟨i, p⟩, hi, him, hp1, hp2, hb⟩
  simp only at hi him hp1 hp2 hb
  simp [St.lp, St.only, keepE, getK_cons, getK]
  rcases hx : l[i]? with _ | x
  · have hge : l.length ≤ i := by simpa using hx
    obtain rfl : i = l.length := by omega
    rw [List.drop_length, fewLG] at hb
    subst hb
    repeat' (first
    | (refine H_cons ?_; simp [hx])
    | (refine H_nil ?_; simp [hx])
    | (refine V_sseq ?_; simp [hx])
    | (refine V_scond ?_; simp [hx])
    | (refine V_sblock ?_; simp [hx])
    | (refine V_exit ?_; simp [RunK])
    | fail)
    refine V_loopF (α := { i : Nat // i ≤ vs.length ∧ (i : Int) ≤ 21 ∧ ∀ v ∈ vs.take i, decide (v.name.length ≤ 40) = true }) [0, 1] (fun i => [(7, .u (.int .i64 i.1))]) (fun i => vs.length - i.1) ⟨0, by omega, by omega, by simp⟩ ?_ ?_
    · exact (Wk.env rfl rfl rfl (by simp [wkE, St.lp, keepE, getK_cons, getK] <;> (try (intros; simp_all; done)) <;> (try (intros; omega)) <;> (try grind)))
    rintro ⟨k, hk0, hkn, hkb⟩
    simp [St.lp, St.only, keepE, getK_cons, getK]
    have fin : (k = vs.length ∨ (k : Int) = 21) → C = true := fun h => by
      rw [← hV, List.all_eq_true]
      intro v hv
      refine hkb v ?_
      rcases h with h | h
      · rw [h, List.take_length]; exact List.mem_of_mem_take hv
      · rw [show k = 21 by omega]; exact hv
    rcases hy : vs[k]? with _ | v
    · have hge2 : vs.length ≤ k := by simpa using hy
      obtain rfl : k = vs.length := by omega
      have := fin (.inl rfl)
      subst this
      repeat' (first
    | (refine H_cons ?_; simp [hy])
    | (refine H_nil ?_; simp [hy])
    | (refine V_sseq ?_; simp [hy])
    | (refine V_scond ?_; simp [hy])
    | (refine V_ret ?_; simp only [RunK])
    | (refine V_exit ?_; simp [RunK])
    | (refine ⟨fun hc => ?_, fun hc => ?_⟩ <;> (try (exfalso; omega)))
    | fail)
      all_goals
        (refine EndOK.val (.inr rfl) ?_; simp [resD, oneOrTup, pureD, Tryd.results10])
      all_goals (clear hB hV fin; simp_all <;> (try (intros; omega)))
    · have hlt2 : k < vs.length := (List.getElem?_eq_some_iff.1 hy).1
      by_cases hm2 : (k : Int) ≤ 20
      · by_cases hnv : 40 < v.name.length
        · have hnv1 : 40 < (v.name.length : Int) := by omega
          repeat' (first
    | (refine H_cons ?_; simp [hy, hm2, hnv, hnv1])
    | (refine H_nil ?_; simp [hy, hm2, hnv, hnv1])
    | (refine V_sseq ?_; simp [hy, hm2, hnv, hnv1])
    | (refine V_scond ?_; simp [hy, hm2, hnv, hnv1])
    | (refine V_ret ?_; simp only [RunK])
    | (refine V_skip ?_; simp only [RunK])
    | (refine ⟨?_, by omega⟩)
    | (intro hc <;> (try (exfalso; omega)))
    | fail)
          (refine EndOK.val (.inr rfl) ?_; simp [resD, oneOrTup, pureD, Tryd.results10])
          have : C = false := by
            rw [← hV, List.all_eq_false]
            exact ⟨v, List.mem_of_getElem? (i := k) (by rw [List.getElem?_take, if_pos (by omega)]; exact hy), by simp; omega⟩
          simp [this]
        · have hnv1 : ¬ 40 < (v.name.length : Int) := by omega
          repeat' (first
    | (refine H_cons ?_; simp [hy, hm2, hnv, hnv1])
    | (refine H_nil ?_; simp [hy, hm2, hnv, hnv1])
    | (refine ⟨by omega, ?_⟩)
    | (refine V_sseq ?_; simp [hy, hm2, hnv, hnv1])
    | (refine V_scond ?_; simp [hy, hm2, hnv, hnv1])
    | (refine V_sregion ?_; simp [hy, hm2, hnv, hnv1])
    | (refine V_skip ?_; simp only [RunK])
    | (refine ⟨?_, by omega⟩)
    | (intro hc <;> (try (exfalso; omega)))
    | fail)
          refine LoopW.next ⟨k + 1, by omega, by omega, take_succ_all hy hkb (by simp; omega)⟩ (by simp; omega) ?_
          exact (Wk.env rfl rfl rfl (by simp [wkE, St.lp, keepE, getK_cons, getK] <;> (try (intros; simp_all; done)) <;> (try (intros; omega)) <;> (try grind)))
      · have := fin (.inr (by omega))
        subst this
        repeat' (first
    | (refine H_cons ?_; simp [hy, hm2])
    | (refine H_nil ?_; simp [hy, hm2])
    | (refine V_sseq ?_; simp [hy, hm2])
    | (refine V_scond ?_; simp [hy, hm2])
    | (refine V_ret ?_; simp only [RunK])
    | (refine V_exit ?_; simp [RunK])
    | (refine ⟨?_, by omega⟩)
    | (refine ⟨fun hc => ?_, fun hc => ?_⟩ <;> (try (exfalso; omega)))
    | (intro hc <;> (try (exfalso; omega)))
    | fail)
        all_goals
          (refine EndOK.val (.inr rfl) ?_; simp [resD, oneOrTup, pureD, Tryd.results10])
        all_goals (clear hB hV fin; simp_all <;> (try (intros; omega)))
  · have hlt : i < l.length := (List.getElem?_eq_some_iff.1 hx).1
    rw [List.drop_eq_getElem_cons hlt, (List.getElem?_eq_some_iff.1 hx).2, fewLG] at hb
    by_cases hm : (i : Int) ≤ 22
    · rw [if_pos hm] at hb
      have h5 := fewExp_fun x.body
      simp only [eagg] at h5
      by_cases hn60 : 40 < x.name.length
      · have hn61 : 40 < (x.name.length : Int) := by omega
        rw [if_pos (.inl hn60)] at hb
        repeat' (first
    | (refine H_cons ?_; simp [hx, hm, hn60, hn61])
    | (refine H_nil ?_; simp [hx, hm, hn60, hn61])
    | (refine V_sseq ?_; simp [hx, hm, hn60, hn61])
    | (refine V_scond ?_; simp [hx, hm, hn60, hn61])
    | (refine V_ret ?_; simp only [RunK])
    | (refine V_skip ?_; simp only [RunK])
    | (refine ⟨?_, by omega⟩)
    | (intro hc <;> (try (exfalso; omega)))
    | fail)
        (refine EndOK.val (.inr rfl) ?_; simp [resD, oneOrTup, pureD, Tryd.results10])
        simp [hb]
      · have hn61 : ¬ 40 < (x.name.length : Int) := by omega
        cases hf : fewE x.body with
        | false =>
          rw [if_pos (.inr hf)] at hb
          rw [hf] at h5
          repeat' (first
    | (refine H_cons ?_; simp [hx, hm, hn60, hn61])
    | (refine H_nil ?_; simp [hx, hm, hn60, hn61])
    | (refine V_sseq ?_; simp [hx, hm, hn60, hn61])
    | (refine V_scond ?_; simp [hx, hm, hn60, hn61])
    | (refine V_ret ?_; simp only [RunK])
    | (refine V_skip ?_; simp only [RunK])
    | (refine ⟨?_, by omega⟩)
    | (intro hc <;> (try (exfalso; omega)))
    | (refine CallP.fun_ (h5) (by first | rfl | fail) (by first | assumption | (simp; done) | fail) (by first | (simp [hx, hm, hn60, hn61]; done) | (simp [hx, hm, hn60, hn61]; rfl) | fail) (by first | (simp; done) | fail) (fun d hd => ?_); subst hd; (try simp [hx, hm, hn60, hn61]))
    | fail)
          (refine EndOK.val (.inr rfl) ?_; simp [resD, oneOrTup, pureD, Tryd.results10])
          simp [hb]
        | true =>
          rw [if_neg (by simp [hn60, hf])] at hb
          rw [hf] at h5
          have hfn : namesN x.body ≤ 80 := by
            unfold fewE at hf
            simp only [decide_eq_true_eq] at hf
            have := few_names 14 x.body 80 (by omega) hf
            omega
          have hnn := namesN_nonneg x.body
          have h6 := rnames_fun _ x.body (Nat.le_refl _) (by omega)
          simp only [eagg] at h6
          generalize namesN x.body = y at h6 hb hfn hnn
          have hpy : p * (1 + y) ≤ 2000 * 1001 := Int.mul_le_mul hp2 (by omega) (by omega) (by omega)
          have hpy1 : 1 ≤ p * (1 + y) := by
            have := Int.mul_le_mul hp1 (show (1 : Int) ≤ 1 + y by omega) (by omega) (by omega)
            omega
          generalize hq : p * (1 + y) = q at *
          by_cases hq2 : 2000 < q
          · rw [if_pos hq2] at hb
            repeat' (first
    | (refine H_cons ?_; simp [hx, hm, hn60, hn61, hq, hq2])
    | (refine H_nil ?_; simp [hx, hm, hn60, hn61, hq, hq2])
    | (refine ⟨by omega, ?_⟩)
    | (refine V_sseq ?_; simp [hx, hm, hn60, hn61, hq, hq2])
    | (refine V_scond ?_; simp [hx, hm, hn60, hn61, hq, hq2])
    | (refine V_ret ?_; simp only [RunK])
    | (refine V_skip ?_; simp only [RunK])
    | (refine ⟨?_, by omega⟩)
    | (intro hc <;> (try (exfalso; omega)))
    | (refine CallP.fun_ (h5) (by first | rfl | fail) (by first | assumption | (simp; done) | fail) (by first | (simp [hx, hm, hn60, hn61, hq, hq2]; done) | (simp [hx, hm, hn60, hn61, hq, hq2]; rfl) | fail) (by first | (simp; done) | fail) (fun d hd => ?_); subst hd; (try simp [hx, hm, hn60, hn61, hq, hq2]))
    | (refine CallP.fun_ (h6) (by first | rfl | fail) (by first | assumption | (simp; done) | fail) (by first | (simp [hx, hm, hn60, hn61, hq, hq2]; done) | (simp [hx, hm, hn60, hn61, hq, hq2]; rfl) | fail) (by first | (simp; done) | fail) (fun d hd => ?_); subst hd; (try simp [hx, hm, hn60, hn61, hq, hq2]))
    | fail)
            (refine EndOK.val (.inr rfl) ?_; simp [resD, oneOrTup, pureD, Tryd.results10])
            simp [hb]
          · rw [if_neg hq2] at hb
            repeat' (first
    | (refine H_cons ?_; simp [hx, hm, hn60, hn61, hq, hq2])
    | (refine H_nil ?_; simp [hx, hm, hn60, hn61, hq, hq2])
    | (refine ⟨by omega, ?_⟩)
    | (refine V_sseq ?_; simp [hx, hm, hn60, hn61, hq, hq2])
    | (refine V_scond ?_; simp [hx, hm, hn60, hn61, hq, hq2])
    | (refine V_sregion ?_; simp [hx, hm, hn60, hn61, hq, hq2])
    | (refine V_skip ?_; simp only [RunK])
    | (refine ⟨?_, by omega⟩)
    | (intro hc <;> (try (exfalso; omega)))
    | (refine CallP.fun_ (h5) (by first | rfl | fail) (by first | assumption | (simp; done) | fail) (by first | (simp [hx, hm, hn60, hn61, hq, hq2]; done) | (simp [hx, hm, hn60, hn61, hq, hq2]; rfl) | fail) (by first | (simp; done) | fail) (fun d hd => ?_); subst hd; (try simp [hx, hm, hn60, hn61, hq, hq2]))
    | (refine CallP.fun_ (h6) (by first | rfl | fail) (by first | assumption | (simp; done) | fail) (by first | (simp [hx, hm, hn60, hn61, hq, hq2]; done) | (simp [hx, hm, hn60, hn61, hq, hq2]; rfl) | fail) (by first | (simp; done) | fail) (fun d hd => ?_); subst hd; (try simp [hx, hm, hn60, hn61, hq, hq2]))
    | fail)
            refine LoopW.next ⟨(i + 1, q), hlt, by omega, hpy1, by omega, hb⟩ (by simp; omega) ?_
            exact (Wk.env rfl rfl rfl (by simp [wkE, St.lp, keepE, getK_cons, getK] <;> (try (intros; simp_all; done)) <;> (try (intros; omega)) <;> (try grind)))
    · rw [if_neg hm] at hb
      subst hb
      repeat' (first
    | (refine H_cons ?_; simp [hx, hm])
    | (refine H_nil ?_; simp [hx, hm])
    | (refine V_sseq ?_; simp [hx, hm])
    | (refine V_scond ?_; simp [hx, hm])
    | (refine V_sblock ?_; simp [hx, hm])
    | (refine V_exit ?_; simp [RunK])
    | (refine ⟨?_, by omega⟩)
    | (intro hc <;> (try (exfalso; omega)))
    | fail)
      refine V_loopF (α := { i : Nat // i ≤ vs.length ∧ (i : Int) ≤ 21 ∧ ∀ v ∈ vs.take i, decide (v.name.length ≤ 40) = true }) [0, 1] (fun i => [(7, .u (.int .i64 i.1))]) (fun i => vs.length - i.1) ⟨0, by omega, by omega, by simp⟩ ?_ ?_
      · exact (Wk.env rfl rfl rfl (by simp [wkE, St.lp, keepE, getK_cons, getK] <;> (try (intros; simp_all; done)) <;> (try (intros; omega)) <;> (try grind)))
      rintro ⟨k, hk0, hkn, hkb⟩
      simp [St.lp, St.only, keepE, getK_cons, getK]
      have fin : (k = vs.length ∨ (k : Int) = 21) → C = true := fun h => by
        rw [← hV, List.all_eq_true]
        intro v hv
        refine hkb v ?_
        rcases h with h | h
        · rw [h, List.take_length]; exact List.mem_of_mem_take hv
        · rw [show k = 21 by omega]; exact hv
      rcases hy : vs[k]? with _ | v
      · have hge2 : vs.length ≤ k := by simpa using hy
        obtain rfl : k = vs.length := by omega
        have := fin (.inl rfl)
        subst this
        repeat' (first
    | (refine H_cons ?_; simp [hy])
    | (refine H_nil ?_; simp [hy])
    | (refine ⟨by omega, ?_⟩)
    | (refine V_sseq ?_; simp [hy])
    | (refine V_scond ?_; simp [hy])
    | (refine V_ret ?_; simp only [RunK])
    | (refine V_exit ?_; simp [RunK])
    | (intro hc <;> (try (exfalso; omega)))
    | fail)
        all_goals
          (refine EndOK.val (.inr rfl) ?_; simp [resD, oneOrTup, pureD, Tryd.results10])
        all_goals (clear hB hV fin; simp_all <;> (try (intros; omega)))
      · have hlt2 : k < vs.length := (List.getElem?_eq_some_iff.1 hy).1
        by_cases hm2 : (k : Int) ≤ 20
        · by_cases hnv : 40 < v.name.length
          · have hnv1 : 40 < (v.name.length : Int) := by omega
            repeat' (first
    | (refine H_cons ?_; simp [hy, hm2, hnv, hnv1])
    | (refine H_nil ?_; simp [hy, hm2, hnv, hnv1])
    | (refine V_sseq ?_; simp [hy, hm2, hnv, hnv1])
    | (refine V_scond ?_; simp [hy, hm2, hnv, hnv1])
    | (refine V_ret ?_; simp only [RunK])
    | (refine V_skip ?_; simp only [RunK])
    | (refine ⟨?_, by omega⟩)
    | (intro hc <;> (try (exfalso; omega)))
    | fail)
            (refine EndOK.val (.inr rfl) ?_; simp [resD, oneOrTup, pureD, Tryd.results10])
            have : C = false := by
              rw [← hV, List.all_eq_false]
              exact ⟨v, List.mem_of_getElem? (i := k) (by rw [List.getElem?_take, if_pos (by omega)]; exact hy), by simp; omega⟩
            simp [this]
          · have hnv1 : ¬ 40 < (v.name.length : Int) := by omega
            repeat' (first
    | (refine H_cons ?_; simp [hy, hm2, hnv, hnv1])
    | (refine H_nil ?_; simp [hy, hm2, hnv, hnv1])
    | (refine ⟨by omega, ?_⟩)
    | (refine V_sseq ?_; simp [hy, hm2, hnv, hnv1])
    | (refine V_scond ?_; simp [hy, hm2, hnv, hnv1])
    | (refine V_sregion ?_; simp [hy, hm2, hnv, hnv1])
    | (refine V_skip ?_; simp only [RunK])
    | (refine ⟨?_, by omega⟩)
    | (intro hc <;> (try (exfalso; omega)))
    | fail)
            refine LoopW.next ⟨k + 1, by omega, by omega, take_succ_all hy hkb (by simp; omega)⟩ (by simp; omega) ?_
            exact (Wk.env rfl rfl rfl (by simp [wkE, St.lp, keepE, getK_cons, getK] <;> (try (intros; simp_all; done)) <;> (try (intros; omega)) <;> (try grind)))
        · have := fin (.inr (by omega))
          subst this
          repeat' (first
    | (refine H_cons ?_; simp [hy, hm2])
    | (refine H_nil ?_; simp [hy, hm2])
    | (refine ⟨by omega, ?_⟩)
    | (refine V_sseq ?_; simp [hy, hm2])
    | (refine V_scond ?_; simp [hy, hm2])
    | (refine V_ret ?_; simp only [RunK])
    | (refine V_exit ?_; simp [RunK])
    | (refine ⟨?_, by omega⟩)
    | (intro hc <;> (try (exfalso; omega)))
    | fail)
          all_goals
            (refine EndOK.val (.inr rfl) ?_; simp [resD, oneOrTup, pureD, Tryd.results10])
          all_goals (clear hB hV fin; simp_all <;> (try (intros; omega)))
end Go.Proofs.YtfcopibncpkdoaaDoor
namespace Go.Proofs.YtfcopibncpkdoaaDoor
open Go Go.VL
def TM.Pure (f : TM) : Prop := ∀ t, f t = ((f []).1, t)
theorem TM.Pure.ret (x) : TM.Pure (TM.ret x) := fun t => rfl
theorem TM.Pure.bind {f : TM} {g : Int → TM} (hf : f.Pure) (hg : ∀ a, (g a).Pure) : (f.bind g).Pure := fun t => by
  unfold TM.bind
  rw [hf t, hf []]
  rcases (f []).1 with e | v
  · rfl
  · exact hg v t
mutual
theorem valT_pure {nm : List UInt8 → TM} {sh : Exp → Bool} (hn : ∀ s, (nm s).Pure) : ∀ e : Exp, (valT nm sh e).Pure
  | .mk op n u s args => by
    have h := fun i => valN_pure (sh := sh) hn args i
    rw [valT]
    split
    · exact .ret _
    split
    · exact hn s
    split
    · refine .bind (h 0) fun a => ?_
      split
      · exact .ret _
      · exact .bind (h 1) fun b => .ret _
    split
    · refine .bind (h 0) fun a => ?_
      split
      · exact .ret _
      · exact .bind (h 1) fun b => .ret _
    split
    · exact .bind (h 0) fun a => .ret _
    split
    · refine .bind (h 0) fun a => ?_
      split
      · exact h 1
      · exact h 2
    · exact .bind (h 0) fun a => .bind (h 1) fun b => .ret _
theorem valN_pure {nm : List UInt8 → TM} {sh : Exp → Bool} (hn : ∀ s, (nm s).Pure) : ∀ (l : List Exp) (i : Nat), (valN nm sh l i).Pure
  | [], i => by rw [valN]; exact .ret _
  | e :: l, 0 => by rw [valN]; exact valT_pure hn e
  | e :: l, i + 1 => by rw [valN]; exact valN_pure hn l i
end
/-- Names without a table. -/
def nmP (lets : List Let) (G : List UInt8 → Option Int) : Nat → List UInt8 → TM
  | 0, s => .ret (match G s with | some v => .ok v | none => .error 13)
  | n + 1, s => match G s with
    | some v => .ret (.ok v)
    | none => match lets[n]? with
      | none => .ret (.error 13)
      | some l => if l.name = s then .ret (valT (nmP lets G n) (shareP (lets.take n)) l.body []).1 else nmP lets G n s
def valX (lets : List Let) (G : List UInt8 → Option Int) (n : Nat) (e : Exp) : Except Int Int := (valT (nmP lets G n) (shareP (lets.take n)) e []).1
theorem nmP_pure {lets G} : ∀ (n : Nat) (s : List UInt8), (nmP lets G n s).Pure
  | 0, s => by rw [nmP]; exact .ret _
  | n + 1, s => by
    rw [nmP]
    split
    · exact .ret _
    · split
      · exact .ret _
      · split
        · exact .ret _
        · exact nmP_pure n s
/-- A table that holds what the lets' bodies have. -/
def TabV (lets : List Let) (G : List UInt8 → Option Int) (t : Tab) : Prop := ∀ (i : Nat) (v e : Int), t[i]? = some (v, e, true) → ∃ l, lets[i]? = some l ∧ (v, e, true) = entX (valX lets G i l.body)
def Sm (lets : List Let) (G : List UInt8 → Option Int) (f f' : TM) : Prop := ∀ t, TabOK lets.length t → TabV lets G t → (f t).1 = (f' []).1 ∧ TabV lets G (f t).2
theorem Sm.ret {lets G x} : Sm lets G (TM.ret x) (TM.ret x) := fun t _ h => ⟨rfl, h⟩
theorem Sm.bind {lets G} {f f' : TM} {g g' : Int → TM} (hf : Sm lets G f f') (hk : TMok lets.length f) (hp : f'.Pure) (hg : ∀ a, Sm lets G (g a) (g' a)) : Sm lets G (f.bind g) (f'.bind g') := fun t h1 h2 => by
  obtain ⟨e1, v1⟩ := hf t h1 h2
  obtain ⟨k1, _, _⟩ := hk t h1
  unfold TM.bind
  rcases hft : f t with ⟨er | v, t'⟩
  · rw [hft] at e1 v1
    simp only at e1 v1
    rw [hp [], ← e1]
    exact ⟨rfl, v1⟩
  · rw [hft] at e1 v1 k1
    simp only at e1 v1 k1
    rw [hp [], ← e1]
    exact hg v t' k1 v1
theorem valT_sm {lets G nm nm' sh} (hn : ∀ s, Sm lets G (nm s) (nm' s)) (ho : ∀ s, TMok lets.length (nm s)) (hp : ∀ s, (nm' s).Pure) : ∀ (d : Nat) (e : Exp), rightB d e = true → Sm lets G (valT nm sh e) (valT nm' sh e)
  | 0, e, h => by simp [rightB] at h
  | d + 1, e, h => by
    obtain ⟨h1, h2, h3, h4⟩ := right_args h
    rw [valT_eq, valT_eq]
    by_cases c0 : e.op = 0
    · rw [if_pos c0, if_pos c0]; exact .ret
    rw [if_neg c0, if_neg c0]
    by_cases c1 : e.op = 1
    · rw [if_pos c1, if_pos c1]; exact hn _
    rw [if_neg c1, if_neg c1]
    have hS : ∀ i : Nat, (i : Int) < operandsI e.op → Sm lets G (valN nm sh e.args i) (valN nm' sh e.args i) := fun i hi => by
      have hlt : i < e.args.length := by omega
      rw [valN_at (List.getElem?_eq_getElem hlt), valN_at (List.getElem?_eq_getElem hlt)]
      exact valT_sm hn ho hp d _ (h4 c0 c1 _ (List.getElem_mem hlt))
    have hO : ∀ i : Nat, (i : Int) < operandsI e.op → TMok lets.length (valN nm sh e.args i) := fun i hi => by
      have hlt : i < e.args.length := by omega
      rw [valN_at (List.getElem?_eq_getElem hlt)]
      exact valT_ok ho d _ (h4 c0 c1 _ (List.getElem_mem hlt))
    have hP : ∀ i, (valN nm' sh e.args i).Pure := fun i => valN_pure hp _ i
    by_cases c2 : e.op = 10
    · rw [if_pos c2, if_pos c2]
      rw [c2] at hS hO
      refine .bind (hS 0 (by decide)) (hO 0 (by decide)) (hP 0) fun a => ?_
      split
      · exact .ret
      · exact .bind (hS 1 (by decide)) (hO 1 (by decide)) (hP 1) fun b => .ret
    rw [if_neg c2, if_neg c2]
    by_cases c3 : e.op = 11
    · rw [if_pos c3, if_pos c3]
      rw [c3] at hS hO
      refine .bind (hS 0 (by decide)) (hO 0 (by decide)) (hP 0) fun a => ?_
      split
      · exact .ret
      · exact .bind (hS 1 (by decide)) (hO 1 (by decide)) (hP 1) fun b => .ret
    rw [if_neg c3, if_neg c3]
    by_cases c4 : e.op = 12
    · rw [if_pos c4, if_pos c4]
      rw [c4] at hS hO
      exact .bind (hS 0 (by decide)) (hO 0 (by decide)) (hP 0) fun a => .ret
    rw [if_neg c4, if_neg c4]
    by_cases c5 : e.op = 13
    · rw [if_pos c5, if_pos c5]
      rw [c5] at hS hO
      refine .bind (hS 0 (by decide)) (hO 0 (by decide)) (hP 0) fun a => ?_
      split
      · exact hS 1 (by decide)
      · exact hS 2 (by decide)
    rw [if_neg c5, if_neg c5]
    have ho : operandsI e.op = 2 := by unfold operandsI; split <;> first | omega | (split <;> first | omega | (split <;> first | omega | (split <;> omega)))
    rw [ho] at hS hO
    exact .bind (hS 0 (by decide)) (hO 0 (by decide)) (hP 0) fun a => .bind (hS 1 (by decide)) (hO 1 (by decide)) (hP 1) fun b => .ret
theorem entX_out {r : Except Int Int} (h : ∀ e, r = .error e → e ≠ 0) : outX (entX r).1 (entX r).2.1 = r := by
  cases r with
  | ok v => rfl
  | error e => simp [entX, outX, h e rfl]
theorem nmT_sm {lets : List Let} {G : List UInt8 → Option Int} (hl : ∀ l ∈ lets, rightB 12 l.body = true) (hg : ∀ s v, G s = some v → inC v) : ∀ n s, Sm lets G (nmT lets G n s) (nmP lets G n s)
  | 0, s => by rw [nmT, nmP]; exact .ret
  | n + 1, s => by
    rw [nmT, nmP]
    cases hgs : G s with
    | some v => exact .ret
    | none =>
      simp only
      cases hx : lets[n]? with
      | none => exact .ret
      | some l =>
        simp only
        split
        · intro t ht hv
          have hrl := hl l (List.mem_of_getElem? hx)
          obtain ⟨g1, g2, g3⟩ := valT_ok (nmT_ok hl hg n) 12 l.body hrl (sh := shareP (lets.take n)) t ht
          obtain ⟨e1, e2⟩ := valT_sm (fun s => nmT_sm hl hg n s) (nmT_ok hl hg n) (fun s => nmP_pure n s) 12 l.body hrl (sh := shareP (lets.take n)) t ht hv
          have hne : ∀ e, (valT (nmP lets G n) (shareP (lets.take n)) l.body []).1 = .error e → e ≠ 0 := fun e h => g3 e (by rw [e1]; exact h)
          have main : outX (entX (valT (nmT lets G n) (shareP (lets.take n)) l.body t).1).1 (entX (valT (nmT lets G n) (shareP (lets.take n)) l.body t).1).2.1 = (valT (nmP lets G n) (shareP (lets.take n)) l.body []).1 ∧
              TabV lets G ((valT (nmT lets G n) (shareP (lets.take n)) l.body t).2.set n (entX (valT (nmT lets G n) (shareP (lets.take n)) l.body t).1)) := by
            rw [e1]
            refine ⟨entX_out hne, fun i v e hi => ?_⟩
            rw [List.getElem?_set] at hi
            split at hi
            · rename_i hni
              subst hni
              split at hi
              · exact ⟨l, hx, (Option.some.inj hi).symm⟩
              · cases hi
            · exact e2 i v e hi
          rcases hti : t[n]? with _ | ⟨v, e, d⟩
          · simp only [hti]; exact main
          · cases d
            · simp only [hti]; exact main
            · simp only [hti]
              obtain ⟨l', h5, h6⟩ := hv n v e hti
              rw [hx] at h5
              cases h5
              refine ⟨?_, hv⟩
              have h7 : (v, e, true) = entX (valX lets G n l.body) := h6
              have h8 : v = (entX (valX lets G n l.body)).1 := by rw [← h7]
              have h9 : e = (entX (valX lets G n l.body)).2.1 := by rw [← h7]
              rw [h8, h9]
              exact entX_out hne
        · exact nmT_sm hl hg n s
/-- The value without a table. -/
theorem valL_valX {lets : List Let} {G : List UInt8 → Option Int} (hl : ∀ l ∈ lets, rightB 12 l.body = true) (hg : ∀ s v, G s = some v → inC v) (n d : Nat) (e : Exp) (h : rightB d e = true) (t : Tab) (ht : TabOK lets.length t) (hv : TabV lets G t) :
    (valL lets G n e t).1 = valX lets G n e ∧ TabV lets G (valL lets G n e t).2 :=
  valT_sm (fun s => nmT_sm hl hg n s) (nmT_ok hl hg n) (fun s => nmP_pure n s) d e h t ht hv
end Go.Proofs.YtfcopibncpkdoaaDoor
namespace Go.Proofs.YtfcopibncpkdoaaDoor
open Go Go.VL
mutual
def usesS (s : List UInt8) : Exp → Bool
  | .mk op _ _ t args => (decide (op = 1) && decide (t = s)) || usesL s args
def usesL (s : List UInt8) : List Exp → Bool
  | [] => false
  | e :: r => usesS s e || usesL s r
end
theorem usesS_eq (s) (e : Exp) : usesS s e = ((decide (e.op = 1) && decide (e.s = s)) || usesL s e.args) := by cases e with | mk op n u t args => rw [usesS]; rfl
theorem usesL_any (s) : ∀ l : List Exp, usesL s l = l.any (usesS s)
  | [] => by rw [usesL]; rfl
  | e :: r => by rw [usesL, List.any_cons, usesL_any s r]
mutual
def putS (s : List UInt8) (b : Exp) : Exp → Exp
  | .mk op n u t args => if op = 1 ∧ t = s then b else .mk op n u t (putL s b args)
def putL (s : List UInt8) (b : Exp) : List Exp → List Exp
  | [] => []
  | e :: l => putS s b e :: putL s b l
end
theorem putL_map (s b) : ∀ l : List Exp, putL s b l = l.map (putS s b)
  | [] => by rw [putL]; rfl
  | e :: l => by rw [putL, putL_map s b l]; rfl
theorem putS_eq (s b) (e : Exp) : putS s b e = if e.op = 1 ∧ e.s = s then b else .mk e.op e.n e.unit e.s (e.args.map (putS s b)) := by
  cases e with | mk op n u t args => rw [putS, putL_map]; rfl
theorem eagg_mk (o n u : Int) (t : List UInt8) (l : List Exp) : eagg (.mk o n u t l) = .u (.agg [.int .i64 o, .int .i64 n, .int .i64 u, .str t, .sl (l.map Exp.row)]) := rfl
mutual
/-- Every node has few operands. -/
def thinS : Exp → Bool
  | .mk _ _ _ _ args => decide (args.length ≤ 1000) && thinL args
def thinL : List Exp → Bool
  | [] => true
  | e :: l => thinS e && thinL l
end
theorem thinL_all : ∀ l : List Exp, thinL l = true ↔ ∀ x ∈ l, thinS x = true
  | [] => by rw [thinL]; simp
  | e :: l => by rw [thinL, Bool.and_eq_true, thinL_all l]; simp
theorem thinS_iff (e : Exp) : thinS e = true ↔ e.args.length ≤ 1000 ∧ ∀ x ∈ e.args, thinS x = true := by
  cases e with | mk op n u s args => rw [thinS, Bool.and_eq_true, decide_eq_true_eq, thinL_all]; rfl
theorem rightB_mono : ∀ (d : Nat) (e : Exp), rightB d e = true → rightB (d + 1) e = true
  | 0, e, h => by simp [rightB] at h
  | d + 1, e, h => by
    have ih := fun x => rightB_mono d x
    rw [rightB] at h ⊢
    by_cases h0 : e.op = 0
    · simpa [h0] using h
    · by_cases h1 : e.op = 1
      · simpa [h0, h1] using h
      · simp only [h0, h1, if_false, Bool.and_eq_true, decide_eq_true_eq] at h ⊢
        refine ⟨h.1, ?_⟩
        have h2 := h.2
        split at h2
        · cases h2
        · rename_i hz
          rw [if_neg hz]
          simp only [Bool.and_eq_true, decide_eq_true_eq, Bool.not_eq_true', List.any_eq_false] at h2 ⊢
          exact ⟨h2.1, fun x hx => by simpa using ih x (by simpa using h2.2 x hx)⟩
section
variable {m m' : List UInt8 → Bool} {s : List UInt8}
mutual
theorem shareS_agree (hm : ∀ n, n ≠ s → m n = m' n) : ∀ e : Exp, usesS s e = false → shareS m e = shareS m' e
  | .mk op n u t args, h => by
    rw [usesS, Bool.or_eq_false_iff] at h
    have ha := shareN_agree hm args h.2
    rw [shareS, shareS, ha, ha]
    by_cases h0 : op = 0
    · rw [if_pos h0, if_pos h0]
    by_cases h1 : op = 1
    · have ht : t ≠ s := fun ht => by simp [h1, ht] at h
      rw [if_neg h0, if_neg h0, if_pos h1, if_pos h1, hm t ht]
    · rw [if_neg h0, if_neg h0, if_neg h1, if_neg h1]
theorem shareN_agree (hm : ∀ n, n ≠ s → m n = m' n) : ∀ l : List Exp, usesL s l = false → ∀ i, shareN m l i = shareN m' l i
  | [], _, _ => by rw [shareN, shareN]
  | e :: l, h, i => by
    rw [usesL, Bool.or_eq_false_iff] at h
    cases i with
    | zero => rw [shareN, shareN, shareS_agree hm e h.1]
    | succ i => rw [shareN, shareN, shareN_agree hm l h.2]
end
end
theorem few_thin : ∀ (L : Nat) (e : Exp) (most : Int), 0 ≤ most → most ≤ 1000 → nodesS L e most ≤ most → thinS e = true
  | 0, e, most, _, _, h => by rw [nodesS] at h; omega
  | L + 1, e, most, h0, h1000, h => by
    rw [nodesS_succ] at h
    by_cases hs : 40 < e.s.length
    · rw [if_pos hs] at h; omega
    rw [if_neg hs] at h
    have key : ∀ (l : List Exp) (n : Int), 1 ≤ n → l.foldl (fun n x => if n ≤ most then n + nodesS L x (most - n) else n) n ≤ most → n + l.length ≤ most ∧ ∀ x ∈ l, thinS x = true := by
      intro l
      induction l with
      | nil => intro n _ h; exact ⟨by simpa using h, by simp⟩
      | cons a l ih =>
        intro n h1 h2
        rw [List.foldl_cons] at h2
        by_cases hn : n ≤ most
        · rw [if_pos hn] at h2
          have hb := nodes_bound L a (most - n) (by omega)
          have h3 := ih _ (by omega) h2
          have h4 : n + nodesS L a (most - n) ≤ most := by
            rcases Int.lt_or_le most (n + nodesS L a (most - n)) with h5 | h5
            · rw [foldl_done _ _ (by omega)] at h2; omega
            · exact h5
          have h5 := few_thin L a (most - n) (by omega) (by omega) (by omega)
          refine ⟨by simp only [List.length_cons]; omega, fun x hx => ?_⟩
          rcases List.mem_cons.1 hx with rfl | hx
          · exact h5
          · exact h3.2 x hx
        · rw [if_neg hn, foldl_done _ _ hn] at h2; omega
    have h1 := key e.args 1 (by omega) h
    exact (thinS_iff e).2 ⟨by omega, h1.2⟩
section
variable {nm nm' : List UInt8 → TM} {sh sh' : Exp → Bool} {s : List UInt8}
theorem any2 {l : List Exp} (h : ∀ x ∈ l, sh x = sh' x) : (l.take 2).any sh = (l.take 2).any sh' := by
  have : ∀ l : List Exp, (∀ x ∈ l, sh x = sh' x) → l.any sh = l.any sh' := by
    intro l
    induction l with
    | nil => intro _; rfl
    | cons a l ih => intro h; rw [List.any_cons, List.any_cons, h a (by simp), ih fun x hx => h x (by simp [hx])]
  exact this _ fun x hx => h x (List.mem_of_mem_take hx)
mutual
theorem valT_agree (hn : ∀ n, n ≠ s → nm n = nm' n) (hs : ∀ x, usesS s x = false → sh x = sh' x) : ∀ e : Exp, usesS s e = false → valT nm sh e = valT nm' sh' e
  | .mk op n u t args, h => by
    rw [usesS, Bool.or_eq_false_iff] at h
    have ha := valN_agree hn hs args h.2
    have h2 : (args.take 2).any sh = (args.take 2).any sh' := any2 fun x hx => hs x (by
      have := h.2
      rw [usesL_any, List.any_eq_false] at this
      simpa using this x hx)
    rw [valT, valT]
    simp only [ha, h2]
    by_cases h1 : op = 1
    · have ht : t ≠ s := fun ht => by simp [h1, ht] at h
      rw [hn t ht]
    · simp only [if_neg h1]
theorem valN_agree (hn : ∀ n, n ≠ s → nm n = nm' n) (hs : ∀ x, usesS s x = false → sh x = sh' x) : ∀ l : List Exp, usesL s l = false → ∀ i, valN nm sh l i = valN nm' sh' l i
  | [], _, _ => by rw [valN, valN]
  | e :: l, h, i => by
    rw [usesL, Bool.or_eq_false_iff] at h
    cases i with
    | zero => rw [valN, valN, valT_agree hn hs e h.1]
    | succ i => rw [valN, valN, valN_agree hn hs l h.2]
end
mutual
/-- A name that is replaced has the value of what comes in its place. -/
theorem valT_put {b : Exp} (hb : nm' s = valT nm sh b) (hn : ∀ n, n ≠ s → nm' n = nm n) (hs : ∀ x, sh (putS s b x) = sh' x) : ∀ e : Exp, valT nm sh (putS s b e) = valT nm' sh' e
  | .mk op n u t args => by
    rw [putS]
    split
    · rename_i hc
      obtain ⟨rfl, rfl⟩ := hc
      rw [valT.eq_1 nm', if_neg (by decide), if_pos rfl, hb]
    · rename_i hc
      have ha := valN_put hb hn hs args
      have h2 : ((putL s b args).take 2).any sh = (args.take 2).any sh' := by
        rw [putL_map, ← List.map_take, List.any_map]
        congr 1
        funext x
        exact hs x
      rw [valT, valT]
      simp only [ha, h2]
      by_cases h1 : op = 1
      · have ht : t ≠ s := fun ht => hc ⟨h1, ht⟩
        rw [hn t ht]
      · simp only [if_neg h1]
theorem valN_put {b : Exp} (hb : nm' s = valT nm sh b) (hn : ∀ n, n ≠ s → nm' n = nm n) (hs : ∀ x, sh (putS s b x) = sh' x) : ∀ (l : List Exp) (i : Nat), valN nm sh (putL s b l) i = valN nm' sh' l i
  | [], _ => by rw [putL, valN, valN]
  | e :: l, i => by
    rw [putL]
    cases i with
    | zero => rw [valN, valN, valT_put hb hn hs e]
    | succ i => rw [valN, valN, valN_put hb hn hs l]
end
/-- Only the operands of right expressions are asked whether they are shares. -/
theorem valT_share : ∀ (d : Nat) (e : Exp), rightB d e = true → (∀ (k : Nat) x, rightB k x = true → k + 1 ≤ d → sh x = sh' x) → valT nm sh e = valT nm sh' e
  | 0, e, h, _ => by simp [rightB] at h
  | d + 1, e, h, hs => by
    obtain ⟨h1, h2, h3, h4⟩ := right_args h
    rw [valT_eq, valT_eq]
    by_cases c0 : e.op = 0
    · rw [if_pos c0, if_pos c0]
    by_cases c1 : e.op = 1
    · rw [if_neg c0, if_neg c0, if_pos c1, if_pos c1]
    have hA := h4 c0 c1
    have hN : ∀ i, valN nm sh e.args i = valN nm sh' e.args i := fun i => by
      rcases hx : e.args[i]? with _ | x
      · have : ∀ (l : List Exp) (i : Nat), l[i]? = none → valN nm sh l i = valN nm sh' l i := by
          intro l
          induction l with
          | nil => intro i _; rw [valN, valN]
          | cons a l ih =>
            intro i hi
            cases i with
            | zero => simp at hi
            | succ i => rw [valN, valN]; exact ih i (by simpa using hi)
        exact this _ _ hx
      · rw [valN_at hx, valN_at hx]
        exact valT_share d x (hA x (List.mem_of_getElem? hx)) fun k y hy hk => hs k y hy (by omega)
    have h2 : (e.args.take 2).any sh = (e.args.take 2).any sh' := any2 fun x hx => hs d x (hA x hx) (Nat.le_refl _)
    simp only [hN, h2]
end
end Go.Proofs.YtfcopibncpkdoaaDoor
namespace Go.Proofs.YtfcopibncpkdoaaDoor
open Go Go.VL
abbrev gst (g : GM) (v : Var) : GM := if asc g v.name = none then ascPut g v.name v.n else g
theorem gst_at (g : GM) (v : Var) (s : List UInt8) (h : s ≠ v.name) : asc (gst g v) s = asc g s := by
  unfold gst
  split
  · rw [asc_put, if_neg h]
  · rfl
theorem gV_append (vars : List Var) (v : Var) (s : List UInt8) (h : s ≠ v.name) : gF (gV (vars ++ [v])) s = gF (gV vars) s := by
  unfold gF gV
  rw [List.foldl_append]
  exact gst_at _ v s h
theorem gV_none : ∀ (vars : List Var) (g : GM) (s : List UInt8), asc g s = none → (∀ v ∈ vars, v.name ≠ s) → asc (vars.foldl gst g) s = none
  | [], g, s, h, _ => h
  | v :: l, g, s, h, hv => by
    rw [List.foldl_cons]
    exact gV_none l _ s (by rw [gst_at _ _ _ (fun e => hv v (by simp) e.symm)]; exact h) fun x hx => hv x (by simp [hx])
theorem gV_inC {vars : List Var} (h : vars.all inCB = true) : ∀ s v, gF (gV vars) s = some v → inC v := gV_in vars [] (fun s v h => by simp [asc] at h) (by simpa [List.all_eq_true] using h)
theorem tab0_ok (lets : List Let) : TabOK lets.length (tab0 lets) := ⟨by simp [tab0], fun i v e d h => by
  simp only [tab0, List.getElem?_replicate] at h
  split at h
  · cases h; exact ⟨by decide, by decide⟩
  · cases h⟩
theorem tab0_v (lets : List Let) (G) : TabV lets G (tab0 lets) := fun i v e h => by
  simp only [tab0, List.getElem?_replicate] at h
  split at h <;> cases h
/-- Value without a table. -/
theorem valueP_eq (lets : List Let) (vars : List Var) (e : Exp) : valueP lets vars e = if rightAll lets e = true ∧ vars.all inCB = true then ((entX (valX lets (gF (gV vars)) lets.length e)).1, (entX (valX lets (gF (gV vars)) lets.length e)).2.1) else (0, 1) := by
  unfold valueP
  by_cases h : rightAll lets e = true ∧ vars.all inCB = true
  · rw [if_pos h, if_pos h]
    obtain ⟨_, h2, h3⟩ := rights_out h.1
    rw [(valL_valX h3 (gV_inC h.2) lets.length 12 e h2 (tab0 lets) (tab0_ok lets) (tab0_v lets _)).1]
  · rw [if_neg h, if_neg h]
mutual
theorem shareS_put {m m' : List UInt8 → Bool} {s : List UInt8} {b : Exp} (hb : m' s = shareS m b) (hn : ∀ n, n ≠ s → m' n = m n) : ∀ e : Exp, shareS m (putS s b e) = shareS m' e
  | .mk op n u t args => by
    rw [putS]
    split
    · rename_i hc
      obtain ⟨rfl, rfl⟩ := hc
      rw [shareS.eq_1 m', if_neg (by decide), if_pos rfl, hb]
    · rename_i hc
      have ha := shareN_put hb hn args
      rw [shareS, shareS, ha, ha]
      by_cases h1 : op = 1
      · have ht : t ≠ s := fun ht => hc ⟨h1, ht⟩
        rw [hn t ht]
      · simp only [if_neg h1]
theorem shareN_put {m m' : List UInt8 → Bool} {s : List UInt8} {b : Exp} (hb : m' s = shareS m b) (hn : ∀ n, n ≠ s → m' n = m n) : ∀ (l : List Exp) (i : Nat), shareN m (putL s b l) i = shareN m' l i
  | [], _ => by rw [putL, shareN, shareN]
  | e :: l, i => by
    rw [putL]
    cases i with
    | zero => rw [shareN, shareN, shareS_put hb hn e]
    | succ i => rw [shareN, shareN, shareN_put hb hn l]
end
theorem rightB_12 : ∀ {k : Nat} {x : Exp}, k ≤ 12 → rightB k x = true → rightB 12 x = true := by
  intro k x hk h
  have : ∀ j, rightB (k + j) x = true := fun j => by
    induction j with
    | zero => exact h
    | succ j ih => exact rightB_mono _ x ih
  have h1 := this (12 - k)
  rwa [show k + (12 - k) = 12 by omega] at h1
/-- Only right expressions are asked: whether they are shares is told by the lets alone. -/
theorem valT_sh (nm : List UInt8 → TM) {lets : List Let} (hl : lets.length ≤ 20) (hr : ∀ l ∈ lets, rightB 12 l.body = true) (e : Exp) (h : rightB 12 e = true) : valT nm (shareP lets) e = valT nm (shareS (sF (mOf [] lets))) e :=
  valT_share 12 e h fun k x hx hk => by
    have h1 := rightB_12 (by omega) hx
    unfold shareP
    rw [show rightAll lets x = true from by
      simp only [rightAll, Bool.and_eq_true, decide_eq_true_eq, Bool.not_eq_true', List.any_eq_false, Bool.not_eq_true]
      exact ⟨⟨hl, h1⟩, fun l hx => by simp [hr l hx]⟩, Bool.true_and]
theorem nmP_0 (lets : List Let) (G : List UInt8 → Option Int) (s : List UInt8) : nmP lets G 0 s = .ret (match G s with | some v => .ok v | none => .error 13) := by rw [nmP]; try rfl
theorem nmP_1 (lets : List Let) (G : List UInt8 → Option Int) (s : List UInt8) : nmP lets G 1 s = match G s with | some v => .ret (.ok v) | none => match lets[0]? with | none => .ret (.error 13) | some l => if l.name = s then .ret (valT (nmP lets G 0) (shareP (lets.take 0)) l.body []).1 else nmP lets G 0 s := by show nmP lets G (0 + 1) s = _; rw [nmP]; try rfl
theorem nmP_2 (lets : List Let) (G : List UInt8 → Option Int) (s : List UInt8) : nmP lets G 2 s = match G s with | some v => .ret (.ok v) | none => match lets[1]? with | none => .ret (.error 13) | some l => if l.name = s then .ret (valT (nmP lets G 1) (shareP (lets.take 1)) l.body []).1 else nmP lets G 1 s := by show nmP lets G (1 + 1) s = _; rw [nmP]; try rfl
theorem sF_nil : sF (mOf [] []) = fun _ => false := rfl
theorem sF_one (a : List UInt8) (b : Exp) (s : List UInt8) : sF (mOf [] [⟨a, b⟩]) s = if s = a then shareS (fun _ => false) b else false := by
  show ((asc (ascPut [] a _) s).map _).getD false = _
  rw [asc_put]
  split
  · rfl
  · rfl
theorem sF_two (a c : List UInt8) (b d : Exp) (s : List UInt8) : sF (mOf [] [⟨a, b⟩, ⟨c, d⟩]) s = if s = c then shareS (sF (mOf [] [⟨a, b⟩])) d else if s = a then shareS (fun _ => false) b else false := by
  show ((asc (ascPut (mOf [] [⟨a, b⟩]) c _) s).map _).getD false = _
  rw [asc_put]
  split
  · rfl
  · exact sF_one a b s
theorem rightAll_iff (lets : List Let) (e : Exp) : rightAll lets e = true ↔ lets.length ≤ 20 ∧ rightB 12 e = true ∧ ∀ l ∈ lets, rightB 12 l.body = true := by
  refine ⟨rights_out, fun h => ?_⟩
  simp only [rightAll, Bool.and_eq_true, decide_eq_true_eq, Bool.not_eq_true', List.any_eq_false, Bool.not_eq_true]
  exact ⟨⟨h.1, h.2.1⟩, fun l hl => by simp [h.2.2 l hl]⟩
/-- One let, and its name replaced by its body. -/
theorem value_put {name : List UInt8} {vars : List Var} {e f : Exp} (hv : ∀ v ∈ vars, v.name ≠ name) (hw : rightB 12 (putS name f e) = true) (he : rightB 12 e = true) (hf : rightB 12 f = true) :
    valueP [⟨name, f⟩] vars e = valueP [] vars (putS name f e) := by
  rw [valueP_eq, valueP_eq]
  by_cases hc : vars.all inCB = true
  · rw [if_pos ⟨(rightAll_iff _ _).2 ⟨by simp, he, by simpa using hf⟩, hc⟩, if_pos ⟨(rightAll_iff _ _).2 ⟨by simp, hw, by simp⟩, hc⟩]
    have hG : gF (gV vars) name = none := gV_none vars [] name rfl hv
    generalize gF (gV vars) = G at hG
    have key : valX [⟨name, f⟩] G 1 e = valX [] G 0 (putS name f e) := by
      show (valT (nmP [⟨name, f⟩] G 1) (shareP [⟨name, f⟩]) e []).1 = (valT (nmP [] G 0) (shareP []) (putS name f e) []).1
      rw [valT_sh _ (by simp) (by simpa using hf) e he, valT_sh _ (by simp) (by simp) _ hw]
      rw [valT_put (s := name) (nm' := nmP [⟨name, f⟩] G 1) (sh' := shareS (sF (mOf [] [⟨name, f⟩]))) (b := f)]
      · rw [nmP_1, hG]
        simp only [List.getElem?_cons_zero, if_true]
        have h0 : nmP [⟨name, f⟩] G 0 = nmP [] G 0 := by funext s; rw [nmP_0, nmP_0]
        rw [h0, List.take_zero, valT_sh _ (by simp) (by simp) f hf]
        funext t
        exact ((valT_pure (fun s => nmP_pure 0 s) f) t).symm
      · intro n hn
        rw [nmP_1, nmP_0, nmP_0]
        cases G n with
        | some v => rfl
        | none =>
          simp only [List.getElem?_cons_zero]
          rw [if_neg (Ne.symm hn)]
      · intro x
        refine shareS_put (m' := sF (mOf [] [⟨name, f⟩])) ?_ ?_ x
        · rw [sF_one, if_pos rfl, sF_nil]
        · intro n hn
          rw [sF_one, if_neg hn, sF_nil]
    rw [show ([⟨name, f⟩] : List Let).length = 1 from rfl, show ([] : List Let).length = 0 from rfl, key]
  · rw [if_neg fun h => hc h.2, if_neg fun h => hc h.2]
/-- Names that are not used do not matter. -/
theorem valT_two {nm nm' : List UInt8 → TM} {sh sh' : Exp → Bool} {a b : List UInt8} (hn : ∀ n, n ≠ a → n ≠ b → nm n = nm' n) (hs : ∀ x, usesS a x = false → sh x = sh' x) (e : Exp) (ha : usesS a e = false) (hb : usesS b e = false) : valT nm sh e = valT nm' sh' e := by
  rw [valT_agree (nm' := fun n => if n = a then nm n else nm' n) (sh' := sh) (s := b) (fun n h => by by_cases h1 : n = a <;> simp [h1]; exact hn n h1 h) (fun _ _ => rfl) e hb]
  exact valT_agree (s := a) (fun n h => by simp [h]) hs e ha
/-- A let and a value that are not used. -/
theorem value_spare {name : List UInt8} {vars : List Var} {e f : Exp} {x : Let} {v : Var} (hx : rightB 12 x.body = true) (hxn : name ≠ x.name) (hvn : name ≠ v.name) (hv0 : v.n = 0)
    (h1 : usesS x.name e = false) (h2 : usesS x.name f = false) (h3 : usesS v.name e = false) (h4 : usesS v.name f = false) :
    valueP [x, ⟨name, f⟩] (vars ++ [v]) e = valueP [⟨name, f⟩] vars e := by
  obtain ⟨xn, xb⟩ := x
  simp only at hx hxn h1 h2
  rw [valueP_eq, valueP_eq]
  have hin : (vars ++ [v]).all inCB = vars.all inCB := by simp [inCB, hv0]
  rw [hin]
  by_cases hc : rightAll [⟨name, f⟩] e = true ∧ vars.all inCB = true
  · obtain ⟨hr, hc⟩ := hc
    obtain ⟨_, he, hf⟩ := rights_out hr
    replace hf : rightB 12 f = true := hf ⟨name, f⟩ (by simp)
    rw [if_pos ⟨(rightAll_iff _ _).2 ⟨by simp, he, by simp [hx, hf]⟩, hc⟩, if_pos ⟨hr, hc⟩]
    have hG : ∀ s, s ≠ v.name → gF (gV (vars ++ [v])) s = gF (gV vars) s := fun s => gV_append vars v s
    generalize gF (gV (vars ++ [v])) = G' at hG
    generalize gF (gV vars) = G at hG
    have key : valX [⟨xn, xb⟩, ⟨name, f⟩] G' 2 e = valX [⟨name, f⟩] G 1 e := by
      show (valT (nmP [⟨xn, xb⟩, ⟨name, f⟩] G' 2) (shareP [⟨xn, xb⟩, ⟨name, f⟩]) e []).1 = (valT (nmP [⟨name, f⟩] G 1) (shareP [⟨name, f⟩]) e []).1
      rw [valT_sh _ (by simp) (by simp [hx, hf]) e he, valT_sh _ (by simp) (by simp [hf]) e he]
      have hm1 : ∀ s, s ≠ xn → sF (mOf [] [⟨xn, xb⟩]) s = false := fun s hs => by rw [sF_one, if_neg hs]
      have hfs : shareS (sF (mOf [] [⟨xn, xb⟩])) f = shareS (fun _ => false) f := shareS_agree (s := xn) hm1 f h2
      have hnm1 : ∀ s, s ≠ xn → s ≠ v.name → nmP [⟨xn, xb⟩, ⟨name, f⟩] G' 1 s = nmP [⟨name, f⟩] G 0 s := fun s ha hb => by
        rw [nmP_1, nmP_0, nmP_0, hG s hb]
        cases G s with
        | some w => rfl
        | none => simp only [List.getElem?_cons_zero]; rw [if_neg (Ne.symm ha)]
      rw [valT_two (nm' := nmP [⟨name, f⟩] G 1) (sh' := shareS (sF (mOf [] [⟨name, f⟩]))) (a := xn) (b := v.name) ?_ ?_ e h1 h3]
      · intro s ha hb
        rw [nmP_2, nmP_1 [⟨name, f⟩] G, hG s hb]
        cases G s with
        | some w => rfl
        | none =>
          simp only [List.getElem?_cons_zero, List.getElem?_cons_succ, List.take_succ_cons, List.take_zero]
          by_cases hs : name = s
          · rw [if_pos hs, if_pos hs, valT_sh _ (by simp) (by simp [hx]) f hf, valT_sh _ (by simp) (by simp) f hf]
            rw [valT_two (nm' := nmP [⟨name, f⟩] G 0) (sh' := shareS (sF (mOf [] []))) (a := xn) (b := v.name) hnm1 (fun y hy => shareS_agree (s := xn) (fun n hn => by rw [hm1 n hn]; rfl) y hy) f h2 h4]
          · rw [if_neg hs, if_neg hs, hnm1 s ha hb]
      · intro y hy
        refine shareS_agree (s := xn) (fun n hn => ?_) y hy
        rw [sF_two, sF_one, hfs, if_neg hn]
    rw [show ([⟨xn, xb⟩, ⟨name, f⟩] : List Let).length = 2 from rfl, show ([⟨name, f⟩] : List Let).length = 1 from rfl, key]
  · rw [if_neg hc, if_neg fun h => hc ⟨(rightAll_iff _ _).2 ⟨by simp, ((rightAll_iff _ _).1 h.1).2.1, fun l hl => ((rightAll_iff _ _).1 h.1).2.2 l (by simp at hl ⊢; exact .inr hl)⟩, h.2⟩]
end Go.Proofs.YtfcopibncpkdoaaDoor
namespace Go.Proofs.YtfcopibncpkdoaaDoor
open Go Go.VL
attribute [local simp] hcons hstep evPure opd uOf putOK St.put St.at getK binD binI binS binB nilD aggD eqUs cmpK lookD lookR rangeD nextD entryD keyD valU keyU lookK mkV entD_nil lookK_entD updK_entD1 updK_entD3 allUE allUE_entD makeMapD mapUpdD mapEff updK valM Key.kk shiftI arith unD convD pickD loadD cellsAt fieldAddrD fieldD indexAddrD indexD sliceD cutD lenD minmaxD nilCheckD buildD fillD cellsD isOne ones setAll mkAgg allU allocD boxD storeD St.add buildSliceD appendD rowsOf makeD setOb getK_setOb getK_del getK_cons stripL strip guardTmp entry chunks zcells valD argsV argsW argW argU1 argU0 argsU0 argsU1 calleeOf scalarD scalarU delAll effD St.effS RK_seq RK_seq_ret RK_seq_exit RK_blk RK_blk_ret RK_blk_exit RK_loop RK_loop_ret RK_loop_exit RK_done vs_seq vs_block vs_cond vs_region vs_loop vs_draw applyW mkD rdIds lentIds callOf calleeOf freeOp D.ids Op.operands Call.operands isEffOp makeIfD typeAssertD conc concs conc1 uOfV panicD IntKind.bits allU2 allU2_append List.take_of_length_le List.range_succ
attribute [local irreducible] V G H HD HD2 RunK Eff CallP CallV EndOK Fun Ret FinOK LoopI LoopW EndW
theorem uses_fun (s : List UInt8) : ∀ (m : Nat) (e : Exp), SizeOf.sizeOf e ≤ m → Fun Tryd.prog 12 [eagg e, .u (.str s)] (· = .u (.bool (usesS s e)))
  | 0, e, hm => by cases e; simp at hm
  | m + 1, e, hm => by
    have hch : ∀ x ∈ e.args, SizeOf.sizeOf x ≤ m := fun x hx => by
      cases e with
      | mk op n u s args =>
        have h1 := List.sizeOf_lt_of_mem (show x ∈ args from hx)
        simp at hm
        omega
    rw [usesS_eq, usesL_any]
    generalize hA : e.args.any (usesS s) = A
    by_cases hop : e.op = 1 ∧ e.s = s
    · obtain ⟨hop1, hop2⟩ := hop
      (refine Fun.of_body Tryd.func12 rfl (by simp) fun Γ hn => ?_); simp only [entry, List.zipIdx_cons, List.zipIdx_nil, List.map_cons, List.map_nil, Nat.zero_add, Tryd.ntmps12]
      simp only [eagg]
      repeat' (first
    | (refine H_cons ?_; simp [hop1, hop2])
    | (refine H_nil ?_; simp [hop1, hop2])
    | (refine V_sseq ?_; simp [hop1, hop2])
    | (refine V_scond ?_; simp [hop1, hop2])
    | (refine V_ret ?_; simp only [RunK])
    | fail)
      (refine EndOK.val (.inr rfl) ?_; simp [resD, oneOrTup, pureD, Tryd.results12])
      all_goals simp [hop1, hop2]
    · have hno : (decide (e.op = 1) && decide (e.s = s)) = false := by simpa using hop
      rw [hno, Bool.false_or]
      by_cases hop1 : e.op = 1
      all_goals
        try have hop2 : ¬ e.s = s := fun h => hop ⟨hop1, h⟩
        (refine Fun.of_body Tryd.func12 rfl (by simp) fun Γ hn => ?_); simp only [entry, List.zipIdx_cons, List.zipIdx_nil, List.map_cons, List.map_nil, Nat.zero_add, Tryd.ntmps12]
        simp only [eagg]
        refine V_lenB (x := 0) (j := 4) rfl rfl fun hl => ?_
        simp only [List.length_map] at hl
        repeat' (first
    | (refine H_cons ?_; simp [*])
    | (refine H_nil ?_; simp [*])
    | (refine V_sseq ?_; simp [*])
    | (refine V_scond ?_; simp [*])
    | (refine V_sblock ?_; simp [*])
    | (refine V_skip ?_; simp only [RunK])
    | fail)
        refine V_loopF (α := { i : Nat // i ≤ e.args.length ∧ ∀ x ∈ e.args.take i, usesS s x = false }) [1, 2] (fun i => [(5, .u (.int .i64 i.1))]) (fun i => e.args.length - i.1) ⟨0, by omega, by simp⟩ ?_ ?_
        · exact (Wk.cut rfl (by simp [hn, St.lp]) (by simp [wkO, St.lp, getK_cons, getK, Ob.under, D.under, under_rowsD, under_entD]) (by simp [wkU, St.lp, keepE, getK_cons, getK, D.under]) (by simp [wkE, St.lp, keepE, getK_cons, getK] <;> (try (intros; simp_all; done)) <;> (try (intros; omega)) <;> (try grind)))
        rintro ⟨i, hi, hb⟩
        simp [St.lp, St.only, keepE, getK_cons, getK]
        rcases hx : e.args[i]? with _ | x
        · have hge : e.args.length ≤ i := by simpa using hx
          obtain rfl : i = e.args.length := by omega
          rw [List.take_length] at hb
          have hAf : A = false := by rw [← hA, List.any_eq_false]; intro x hx; simp [hb x hx]
          repeat' (first
    | (refine H_cons ?_; simp [hx])
    | (refine H_nil ?_; simp [hx])
    | (refine V_sseq ?_; simp [hx])
    | (refine V_scond ?_; simp [hx])
    | (refine V_ret ?_; simp only [RunK])
    | (refine V_exit ?_; simp [RunK])
    | fail)
          (refine EndOK.val (.inr rfl) ?_; simp [resD, oneOrTup, pureD, Tryd.results12])
          exact hAf
        · have hlt : i < e.args.length := (List.getElem?_eq_some_iff.1 hx).1
          have h5 := uses_fun s m x (hch x (List.mem_of_getElem? hx))
          simp only [eagg] at h5
          cases hu : usesS s x
          · rw [hu] at h5
            repeat' (first
    | (refine H_cons ?_; simp [hx, x.row_eq])
    | (refine H_nil ?_; simp [hx, x.row_eq])
    | (refine ⟨by omega, ?_⟩)
    | (refine V_sseq ?_; simp [hx, x.row_eq])
    | (refine V_scond ?_; simp [hx, x.row_eq])
    | (refine V_sregion ?_; simp [hx, x.row_eq])
    | (refine V_skip ?_; simp only [RunK])
    | (refine ⟨?_, by omega⟩)
    | (intro hc <;> (try (exfalso; omega)))
    | (refine CallP.fun_ (h5) (by first | rfl | fail) (by first | assumption | (simp; done) | fail) (by first | (simp [hx, x.row_eq]; done) | (simp [hx, x.row_eq]; rfl) | fail) (by first | (simp; done) | fail) (fun d hd => ?_); subst hd; (try simp [hx, x.row_eq]))
    | fail)
            refine LoopW.next ⟨i + 1, by omega, take_succ_all hx hb hu⟩ (by simp; omega) ?_
            exact (Wk.cut rfl (by simp [hn, St.lp]) (by simp [wkO, St.lp, getK_cons, getK, Ob.under, D.under, under_rowsD, under_entD]) (by simp [wkU, St.lp, keepE, getK_cons, getK, D.under]) (by simp [wkE, St.lp, keepE, getK_cons, getK] <;> (try (intros; simp_all; done)) <;> (try (intros; omega)) <;> (try grind)))
          · rw [hu] at h5
            have hAt : A = true := by rw [← hA, List.any_eq_true]; exact ⟨x, List.mem_of_getElem? hx, hu⟩
            repeat' (first
    | (refine H_cons ?_; simp [hx, x.row_eq])
    | (refine H_nil ?_; simp [hx, x.row_eq])
    | (refine V_sseq ?_; simp [hx, x.row_eq])
    | (refine V_scond ?_; simp [hx, x.row_eq])
    | (refine V_ret ?_; simp only [RunK])
    | (refine V_skip ?_; simp only [RunK])
    | (refine ⟨?_, by omega⟩)
    | (intro hc <;> (try (exfalso; omega)))
    | (refine CallP.fun_ (h5) (by first | rfl | fail) (by first | assumption | (simp; done) | fail) (by first | (simp [hx, x.row_eq]; done) | (simp [hx, x.row_eq]; rfl) | fail) (by first | (simp; done) | fail) (fun d hd => ?_); subst hd; (try simp [hx, x.row_eq]))
    | fail)
            (refine EndOK.val (.inr rfl) ?_; simp [resD, oneOrTup, pureD, Tryd.results12])
            exact hAt
theorem put_fun (s : List UInt8) (b : Exp) : ∀ (m : Nat) (e : Exp), SizeOf.sizeOf e ≤ m → thinS e = true → Fun Tryd.prog 14 [eagg e, .u (.str s), eagg b] (· = eagg (putS s b e))
  | 0, e, hm, _ => by cases e; simp at hm
  | m + 1, e, hm, ht => by
    obtain ⟨hl, hth⟩ := (thinS_iff e).1 ht
    have ih : ∀ x ∈ e.args, Fun Tryd.prog 14 [eagg x, .u (.str s), eagg b] (· = eagg (putS s b x)) := fun x hx => by
      refine put_fun s b m x ?_ (hth x hx)
      have h1 := List.sizeOf_lt_of_mem hx
      cases e with | mk op n u t args => simp [Exp.args] at h1 hm; omega
    rw [putS_eq]
    by_cases h1 : e.op = 1 ∧ e.s = s
    · rw [if_pos h1]
      obtain ⟨h1, h2⟩ := h1
      (refine Fun.of_bodyW Tryd.func14 rfl (by simp) fun Γ hn => ?_); simp only [entry, List.zipIdx_cons, List.zipIdx_nil, List.map_cons, List.map_nil, Nat.zero_add, Tryd.ntmps14]
      simp only [eagg]
      repeat' (first
    | (refine H_cons ?_; simp [h1, h2])
    | (refine H_nil ?_; simp [h1, h2])
    | (refine V_sseq ?_; simp [h1, h2])
    | (refine V_scond ?_; simp [h1, h2])
    | (refine V_ret ?_; simp only [RunK])
    | fail)
      refine EndW.norm (EndW.here ?_)
      (refine EndOK.val (.inr rfl) ?_; simp [resD, oneOrTup, pureD, Tryd.results14, frz_obs, frz_env, norm_obs, norm_env, frz, frzOb, frzS, fv, fzVec, fzMap, fzBox, frzObS, frz_entD, frz_rowsD, normD, normU, norm1, normOb])
    rw [if_neg h1, eagg_mk]
    simp only [eagg] at ih ⊢
    have hA0 : (fun i => (e.args.take i).map fun x => (putS s b x).row) 0 = [] := rfl
    have hAl : ∀ i, i ≤ e.args.length → ((fun i => (e.args.take i).map fun x => (putS s b x).row) i).length = i := fun i hi => by simp; omega
    have hAn : ∀ i x, e.args[i]? = some x → (fun i => (e.args.take i).map fun x => (putS s b x).row) (i + 1) = (fun i => (e.args.take i).map fun x => (putS s b x).row) i ++ [(putS s b x).row] := fun i x hx => by
      have hlt : i < e.args.length := (List.getElem?_eq_some_iff.1 hx).1
      simp only
      rw [List.take_succ_eq_append_getElem hlt, List.map_append, (List.getElem?_eq_some_iff.1 hx).2]; rfl
    have hAe : (e.args.map (putS s b)).map Exp.row = (fun i => (e.args.take i).map fun x => (putS s b x).row) e.args.length := by simp [Function.comp_def]
    rw [hAe]
    generalize (fun i => (e.args.take i).map fun x => (putS s b x).row) = A at hA0 hAl hAn
    by_cases hop : e.op = 1
    all_goals
      try have hop2 : ¬ e.s = s := fun h => h1 ⟨hop, h⟩
      (refine Fun.of_bodyW Tryd.func14 rfl (by simp) fun Γ hn => ?_); simp only [entry, List.zipIdx_cons, List.zipIdx_nil, List.map_cons, List.map_nil, Nat.zero_add, Tryd.ntmps14]
      repeat' (first
    | (refine H_cons ?_; simp [*])
    | (refine H_nil ?_; simp [*])
    | (refine V_sseq ?_; simp [*])
    | (refine V_scond ?_; simp [*])
    | (refine V_sblock ?_; simp [*])
    | (refine V_skip ?_; simp only [RunK])
    | fail)
      refine V_wk _ (Wk.ownC 3 _ 4 24 5 (by decide) rfl rfl) ?_
      simp [St.ownC]
      refine V_loopO (α := { i : Nat // i ≤ e.args.length }) [1, 3, 5, 6, 7] (fun i => [(8, .u (.int .i64 i.1))])
        (fun i => [(3, .box [.u (.int .i64 e.op), .u (.int .i64 e.n), .u (.int .i64 e.unit), .u (.str e.s), .vec 4 i.1]), (4, .vec 24 5 (rowsD (A i.1))), (2, .box [.u (.int .i64 0), .u (.int .i64 0), .u (.int .i64 0), .u (.str []), .u (.sl [])]), (1, .box [.u (.int .i64 b.op), .u (.int .i64 b.n), .u (.int .i64 b.unit), .u (.str b.s), .u (.sl (b.args.map Exp.row))]), (0, .box [.u (.int .i64 e.op), .u (.int .i64 e.n), .u (.int .i64 e.unit), .u (.str e.s), .u (.sl (e.args.map Exp.row))])]) 5
        (fun i => e.args.length - i.1) ⟨0, by omega⟩ ?_ ?_
      · exact (Wk.ren ((fun i => i)) rfl (by first | (simp [hn]; done) | (intro i hi; rw [hn] at hi; constructor <;> (try simp) <;> (try (intro _)) <;> omega)) (by simp [wkER, St.lp, keepE, getK_cons, getK, getK_del, getK_setOb, D.under, D.le, D.ren, hA0] <;> (try (intros; simp_all; done)) <;> (try omega)) (by simp [wkR, St.lp, getK_cons, getK, getK_del, getK_setOb, obR, leU, pureRow, pureRows, Ob.under, D.under, D.le, D.ren, hA0] <;> (try (intros; simp_all; done)) <;> (try omega)) (by simp [hA0]))
      rintro ⟨i, hi⟩
      have hal := hAl i hi
      have htk : (A i).take i = A i := List.take_of_length_le (by omega)
      simp [St.lp, St.only, keepE, getK_cons, getK]
      rcases hx : e.args[i]? with _ | x
      · have hge : e.args.length ≤ i := by simpa using hx
        obtain rfl : i = e.args.length := by omega
        repeat' (first
    | (refine H_cons ?_; simp [hx])
    | (refine H_nil ?_; simp [hx])
    | (refine V_sseq ?_; simp [hx])
    | (refine V_scond ?_; simp [hx])
    | (refine V_ret ?_; simp only [RunK])
    | (refine V_exit ?_; simp [RunK])
    | fail)
        (refine EndW.frzN 1 ?_; simp [frzN, frz1, frz_env, frz_obs, St.frz, St.frzS, frzS, fv, fzVec, fzMap, fzBox, frzObS, frz_entD, frz_rowsD, del, frz, frzOb, hal, htk])
        refine EndW.norm (EndW.here ?_)
        (refine EndOK.val (.inr rfl) ?_; simp [resD, oneOrTup, pureD, Tryd.results14, frz_obs, frz_env, norm_obs, norm_env, frz, frzOb, frzS, fv, fzVec, fzMap, fzBox, frzObS, frz_entD, frz_rowsD, normD, normU, norm1, normOb])
        all_goals exact hop
      · have hlt : i < e.args.length := (List.getElem?_eq_some_iff.1 hx).1
        have h5 := ih x (List.mem_of_getElem? hx)
        have hnext := hAn i x hx
        rw [Exp.row_eq] at hnext
        repeat' (first
    | (refine H_cons ?_; simp [hx, x.row_eq])
    | (refine HD2_val rfl ?_; simp [hx, x.row_eq])
    | (refine HD2_chg rfl ?_; simp [hx, x.row_eq])
    | (refine H_nil ?_; simp [hx, x.row_eq])
    | (refine ⟨by omega, ?_⟩)
    | (refine V_sseq ?_; simp [hx, x.row_eq])
    | (refine V_scond ?_; simp [hx, x.row_eq])
    | (refine HD2_nil (hC _ (by kernel_rfl)) (hk _ ?_); clear hC hk C k; simp only [RunK])
    | (refine V_drawE rfl (by kernel_rfl) (by kernel_rfl) (by simp [hn]) fun C k hC hk => ?_; simp [hx, x.row_eq])
    | (refine V_sregion ?_; simp [hx, x.row_eq])
    | (refine V_skip ?_; simp only [RunK])
    | (refine ⟨?_, by omega⟩)
    | (intro hc <;> (try (exfalso; omega)))
    | (refine CallV.fun_ (h5) (by first | rfl | fail) (by first | assumption | (simp; done) | fail) (by first | (simp [hx, x.row_eq]; done) | (simp [hx, x.row_eq]; rfl) | fail) (by first | (simp; done) | fail) ?_ <;> (try simp [hx, x.row_eq]))
    | fail)
        refine LoopW.next ⟨i + 1, (by omega : i + 1 ≤ e.args.length)⟩ (by simp; omega) ?_
        exact (Wk.ren ((fun i => if i = 4 then 6 else i)) rfl (by first | (simp [hn]; done) | (intro i hi; rw [hn] at hi; constructor <;> (try simp) <;> (try (intro _)) <;> omega)) (by simp [wkER, St.lp, keepE, getK_cons, getK, getK_del, getK_setOb, D.under, D.le, D.ren, hnext, htk] <;> (try (intros; simp_all; done)) <;> (try omega)) (by simp [wkR, St.lp, getK_cons, getK, getK_del, getK_setOb, obR, leU, pureRow, pureRows, Ob.under, D.under, D.le, D.ren, hnext, htk] <;> (try (intros; simp_all; done)) <;> (try omega)) (by simp [hnext, htk]))
end Go.Proofs.YtfcopibncpkdoaaDoor
namespace Go.Proofs.YtfcopibncpkdoaaDoor
open Go Go.VL
theorem few17_one {x : Let} {vars : List Var} (h : few17 [x] vars = true) : x.name.length ≤ 40 ∧ vars.length ≤ 20 := by
  unfold few17 at h
  simp only [Bool.and_eq_true, decide_eq_true_eq] at h
  refine ⟨?_, by omega⟩
  have h1 := h.1.1.1
  rw [fewLG, if_pos (by decide)] at h1
  split at h1
  · cases h1
  · omega
theorem fewE_thin {e : Exp} (h : fewE e = true) : thinS e = true := few_thin 14 e 80 (by decide) (by decide) (by simpa [fewE] using h)
/-- What is left to do from a call on is shown once. -/
theorem CallP_share {P : Program} {Γ : Ctx} {S : St} {fop : Operand} {args : List Operand} {dst : Option Tmp} {R : Prop} (k : St → Prop) (main : CallP P Γ fop args dst S k → R) (key : CallP P Γ fop args dst S k) : R := main key
theorem take_succ_all' {α : Type} {p : α → Prop} {l : List α} {i : Nat} {a : α} (hx : l[i]? = some a) (h : ∀ v ∈ l.take i, p v) (ha : p a) : ∀ v ∈ l.take (i + 1), p v := by
  obtain ⟨hi, rfl⟩ := List.getElem?_eq_some_iff.1 hx
  rw [List.take_succ_eq_append_getElem hi]
  intro v hv
  rcases List.mem_append.1 hv with h1 | h1
  · exact h v h1
  · simp at h1; rw [h1]; exact ha
attribute [local simp] hcons hstep evPure opd uOf putOK St.put St.at getK binD binI binS binB nilD aggD eqUs cmpK lookD lookR rangeD nextD entryD keyD valU keyU lookK mkV entD_nil lookK_entD updK_entD1 updK_entD3 allUE allUE_entD makeMapD mapUpdD mapEff updK valM Key.kk shiftI arith unD convD pickD loadD cellsAt fieldAddrD fieldD indexAddrD indexD sliceD cutD lenD minmaxD nilCheckD buildD fillD cellsD isOne ones setAll mkAgg allU allocD boxD storeD St.add buildSliceD appendD rowsOf makeD setOb getK_setOb getK_del getK_cons stripL strip guardTmp entry chunks zcells valD argsV argsW argW argU1 argU0 argsU0 argsU1 calleeOf scalarD scalarU delAll effD St.effS RK_seq RK_seq_ret RK_seq_exit RK_blk RK_blk_ret RK_blk_exit RK_loop RK_loop_ret RK_loop_exit RK_done vs_seq vs_block vs_cond vs_region vs_loop vs_draw applyW mkD rdIds lentIds callOf calleeOf freeOp D.ids Op.operands Call.operands isEffOp makeIfD typeAssertD conc concs conc1 uOfV panicD IntKind.bits allU2 allU2_append List.take_of_length_le List.range_succ
attribute [local irreducible] V G H HD HD2 RunK Eff CallP CallV EndOK Fun Ret FinOK LoopI LoopW EndW
theorem lets_fun (name : List UInt8) (e f : Exp) (vars : List Var) (extra : Let) : Fun Tryd.prog 3 [.u (.str name), eagg e, eagg f, .u (varsU vars), lagg extra] (· = .u (.bool true)) := by
  have h0 := small_fun
  have h1 := few_fun [extra] vars
  have h2 := fewExp_fun e
  have h3 := fewExp_fun f
  simp only [eagg, letsU, varsU, lagg, List.map_nil, List.map_cons] at h1 h2 h3 ⊢
  cases hf1 : few17 [extra] vars with
  | false =>
    rw [hf1] at h1
    (refine Fun.of_bodyW Tryd.func3 rfl (by simp) fun Γ hn => ?_); simp only [entry, List.zipIdx_cons, List.zipIdx_nil, List.map_cons, List.map_nil, Nat.zero_add, Tryd.ntmps3]
    repeat' (first
    | (refine H_cons ?_; simp)
    | (refine H_nil ?_; simp)
    | (refine V_sseq ?_; simp)
    | (refine V_scond ?_; simp)
    | (refine V_ret ?_; simp only [RunK])
    | (refine CallP.fun_ (h0) (by first | rfl | fail) (by first | assumption | (simp; done) | fail) (by first | (simp; done) | (simp; rfl) | fail) (by first | (simp; done) | fail) (fun d hd => ?_); subst hd; (try simp))
    | (refine CallP.fun_ (h1) (by first | rfl | fail) (by first | assumption | (simp; done) | fail) (by first | (simp; done) | (simp; rfl) | fail) (by first | (simp; done) | fail) (fun d hd => ?_); subst hd; (try simp))
    | fail)
    refine EndW.here ?_
    (refine EndOK.val (.inr rfl) ?_; simp [resD, oneOrTup, pureD, Tryd.results3])
  | true =>
  cases hf2 : fewE e with
  | false =>
    rw [hf1] at h1
    rw [hf2] at h2
    (refine Fun.of_bodyW Tryd.func3 rfl (by simp) fun Γ hn => ?_); simp only [entry, List.zipIdx_cons, List.zipIdx_nil, List.map_cons, List.map_nil, Nat.zero_add, Tryd.ntmps3]
    repeat' (first
    | (refine H_cons ?_; simp)
    | (refine H_nil ?_; simp)
    | (refine V_sseq ?_; simp)
    | (refine V_scond ?_; simp)
    | (refine V_ret ?_; simp only [RunK])
    | (refine CallP.fun_ (h0) (by first | rfl | fail) (by first | assumption | (simp; done) | fail) (by first | (simp; done) | (simp; rfl) | fail) (by first | (simp; done) | fail) (fun d hd => ?_); subst hd; (try simp))
    | (refine CallP.fun_ (h1) (by first | rfl | fail) (by first | assumption | (simp; done) | fail) (by first | (simp; done) | (simp; rfl) | fail) (by first | (simp; done) | fail) (fun d hd => ?_); subst hd; (try simp))
    | (refine CallP.fun_ (h2) (by first | rfl | fail) (by first | assumption | (simp; done) | fail) (by first | (simp; done) | (simp; rfl) | fail) (by first | (simp; done) | fail) (fun d hd => ?_); subst hd; (try simp))
    | fail)
    refine EndW.here ?_
    (refine EndOK.val (.inr rfl) ?_; simp [resD, oneOrTup, pureD, Tryd.results3])
  | true =>
  cases hf3 : fewE f with
  | false =>
    rw [hf1] at h1
    rw [hf2] at h2
    rw [hf3] at h3
    (refine Fun.of_bodyW Tryd.func3 rfl (by simp) fun Γ hn => ?_); simp only [entry, List.zipIdx_cons, List.zipIdx_nil, List.map_cons, List.map_nil, Nat.zero_add, Tryd.ntmps3]
    repeat' (first
    | (refine H_cons ?_; simp)
    | (refine H_nil ?_; simp)
    | (refine V_sseq ?_; simp)
    | (refine V_scond ?_; simp)
    | (refine V_ret ?_; simp only [RunK])
    | (refine CallP.fun_ (h0) (by first | rfl | fail) (by first | assumption | (simp; done) | fail) (by first | (simp; done) | (simp; rfl) | fail) (by first | (simp; done) | fail) (fun d hd => ?_); subst hd; (try simp))
    | (refine CallP.fun_ (h1) (by first | rfl | fail) (by first | assumption | (simp; done) | fail) (by first | (simp; done) | (simp; rfl) | fail) (by first | (simp; done) | fail) (fun d hd => ?_); subst hd; (try simp))
    | (refine CallP.fun_ (h2) (by first | rfl | fail) (by first | assumption | (simp; done) | fail) (by first | (simp; done) | (simp; rfl) | fail) (by first | (simp; done) | fail) (fun d hd => ?_); subst hd; (try simp))
    | (refine CallP.fun_ (h3) (by first | rfl | fail) (by first | assumption | (simp; done) | fail) (by first | (simp; done) | (simp; rfl) | fail) (by first | (simp; done) | fail) (fun d hd => ?_); subst hd; (try simp))
    | fail)
    refine EndW.here ?_
    (refine EndOK.val (.inr rfl) ?_; simp [resD, oneOrTup, pureD, Tryd.results3])
  | true =>
  rw [hf1] at h1
  rw [hf2] at h2
  rw [hf3] at h3
  obtain ⟨hxl, hvl⟩ := few17_one hf1
  have hthin := fewE_thin hf2
  by_cases hn40 : 40 < (name.length : Int)
  · (refine Fun.of_bodyW Tryd.func3 rfl (by simp) fun Γ hn => ?_); simp only [entry, List.zipIdx_cons, List.zipIdx_nil, List.map_cons, List.map_nil, Nat.zero_add, Tryd.ntmps3]
    repeat' (first
    | (refine H_cons ?_; simp [hn40])
    | (refine H_nil ?_; simp [hn40])
    | (refine V_sseq ?_; simp [hn40])
    | (refine V_scond ?_; simp [hn40])
    | (refine V_ret ?_; simp only [RunK])
    | (refine CallP.fun_ (h0) (by first | rfl | fail) (by first | assumption | (simp; done) | fail) (by first | (simp [hn40]; done) | (simp [hn40]; rfl) | fail) (by first | (simp; done) | fail) (fun d hd => ?_); subst hd; (try simp [hn40]))
    | (refine CallP.fun_ (h1) (by first | rfl | fail) (by first | assumption | (simp; done) | fail) (by first | (simp [hn40]; done) | (simp [hn40]; rfl) | fail) (by first | (simp; done) | fail) (fun d hd => ?_); subst hd; (try simp [hn40]))
    | (refine CallP.fun_ (h2) (by first | rfl | fail) (by first | assumption | (simp; done) | fail) (by first | (simp [hn40]; done) | (simp [hn40]; rfl) | fail) (by first | (simp; done) | fail) (fun d hd => ?_); subst hd; (try simp [hn40]))
    | (refine CallP.fun_ (h3) (by first | rfl | fail) (by first | assumption | (simp; done) | fail) (by first | (simp [hn40]; done) | (simp [hn40]; rfl) | fail) (by first | (simp; done) | fail) (fun d hd => ?_); subst hd; (try simp [hn40]))
    | fail)
    refine EndW.here ?_
    (refine EndOK.val (.inr rfl) ?_; simp [resD, oneOrTup, pureD, Tryd.results3])
  by_cases hne : name = extra.name
  · (refine Fun.of_bodyW Tryd.func3 rfl (by simp) fun Γ hn => ?_); simp only [entry, List.zipIdx_cons, List.zipIdx_nil, List.map_cons, List.map_nil, Nat.zero_add, Tryd.ntmps3]
    repeat' (first
    | (refine H_cons ?_; simp [hn40, hne])
    | (refine H_nil ?_; simp [hn40, hne])
    | (refine V_sseq ?_; simp [hn40, hne])
    | (refine V_scond ?_; simp [hn40, hne])
    | (refine V_ret ?_; simp only [RunK])
    | (refine ⟨?_, by omega⟩)
    | (intro hc <;> (try (exfalso; omega)))
    | (refine CallP.fun_ (h0) (by first | rfl | fail) (by first | assumption | (simp; done) | fail) (by first | (simp [hn40, hne]; done) | (simp [hn40, hne]; rfl) | fail) (by first | (simp; done) | fail) (fun d hd => ?_); subst hd; (try simp [hn40, hne]))
    | (refine CallP.fun_ (h1) (by first | rfl | fail) (by first | assumption | (simp; done) | fail) (by first | (simp [hn40, hne]; done) | (simp [hn40, hne]; rfl) | fail) (by first | (simp; done) | fail) (fun d hd => ?_); subst hd; (try simp [hn40, hne]))
    | (refine CallP.fun_ (h2) (by first | rfl | fail) (by first | assumption | (simp; done) | fail) (by first | (simp [hn40, hne]; done) | (simp [hn40, hne]; rfl) | fail) (by first | (simp; done) | fail) (fun d hd => ?_); subst hd; (try simp [hn40, hne]))
    | (refine CallP.fun_ (h3) (by first | rfl | fail) (by first | assumption | (simp; done) | fail) (by first | (simp [hn40, hne]; done) | (simp [hn40, hne]; rfl) | fail) (by first | (simp; done) | fail) (fun d hd => ?_); subst hd; (try simp [hn40, hne]))
    | fail)
    refine EndW.here ?_
    (refine EndOK.val (.inr rfl) ?_; simp [resD, oneOrTup, pureD, Tryd.results3])
  have hne2 : ¬ extra.name = name := fun h => hne h.symm
  (refine Fun.of_bodyW Tryd.func3 rfl (by simp) fun Γ hn => ?_); simp only [entry, List.zipIdx_cons, List.zipIdx_nil, List.map_cons, List.map_nil, Nat.zero_add, Tryd.ntmps3]
  repeat' (first
    | (refine H_cons ?_; simp [hn40, hne])
    | (refine H_nil ?_; simp [hn40, hne])
    | (refine V_sseq ?_; simp [hn40, hne])
    | (refine V_scond ?_; simp [hn40, hne])
    | (refine V_sblock ?_; simp [hn40, hne])
    | (refine V_skip ?_; simp only [RunK])
    | (refine CallP.fun_ (h0) (by first | rfl | fail) (by first | assumption | (simp; done) | fail) (by first | (simp [hn40, hne]; done) | (simp [hn40, hne]; rfl) | fail) (by first | (simp; done) | fail) (fun d hd => ?_); subst hd; (try simp [hn40, hne]))
    | (refine CallP.fun_ (h1) (by first | rfl | fail) (by first | assumption | (simp; done) | fail) (by first | (simp [hn40, hne]; done) | (simp [hn40, hne]; rfl) | fail) (by first | (simp; done) | fail) (fun d hd => ?_); subst hd; (try simp [hn40, hne]))
    | (refine CallP.fun_ (h2) (by first | rfl | fail) (by first | assumption | (simp; done) | fail) (by first | (simp [hn40, hne]; done) | (simp [hn40, hne]; rfl) | fail) (by first | (simp; done) | fail) (fun d hd => ?_); subst hd; (try simp [hn40, hne]))
    | (refine CallP.fun_ (h3) (by first | rfl | fail) (by first | assumption | (simp; done) | fail) (by first | (simp [hn40, hne]; done) | (simp [hn40, hne]; rfl) | fail) (by first | (simp; done) | fail) (fun d hd => ?_); subst hd; (try simp [hn40, hne]))
    | fail)
  refine V_loopF (α := { i : Nat // i ≤ vars.length ∧ ∀ v ∈ vars.take i, v.name ≠ name }) [0, 3, 6, 7, 9, 11] (fun i => [(12, .u (.int .i64 i.1))]) (fun i => vars.length - i.1) ⟨0, by omega, by simp⟩ ?_ ?_
  · exact (Wk.cut rfl (by simp [hn, St.lp]) (by simp [wkO, St.lp, getK_cons, getK, Ob.under, D.under, under_rowsD, under_entD]) (by simp [wkU, St.lp, keepE, getK_cons, getK, D.under]) (by simp [wkE, St.lp, keepE, getK_cons, getK] <;> (try (intros; simp_all; done)) <;> (try (intros; omega)) <;> (try grind)))
  rintro ⟨i, hi, hb⟩
  simp [St.lp, St.only, keepE, getK_cons, getK]
  rcases hx : vars[i]? with _ | v
  case some =>
    have hlt : i < vars.length := (List.getElem?_eq_some_iff.1 hx).1
    by_cases hv : v.name = name
    · repeat' (first
    | (refine H_cons ?_; simp [hx, hv])
    | (refine HD_cons ?_; simp [hx, hv])
    | (refine H_nil ?_; simp [hx, hv])
    | (refine V_sseq ?_; simp [hx, hv])
    | (refine V_scond ?_; simp [hx, hv])
    | (refine HD_nil ?_)
    | (refine hk _ ?_; clear hk k; simp only [RunK])
    | (refine V_drawV rfl (by kernel_rfl) (by kernel_rfl) fun k hk => ?_; simp [hx, hv])
    | (refine HD_guard rfl (by simp [hx, hv]) (fun hc => ?_) (fun hc => ?_) <;> (try simp [hx, hv] at hc) <;> (try (exfalso; omega)) <;> (try simp [hx, hv]))
    | (refine V_ret ?_; simp only [RunK])
    | (refine V_skip ?_; simp only [RunK])
    | (refine ⟨?_, by omega⟩)
    | (intro hc <;> (try (exfalso; omega)))
    | fail)
      refine EndW.here ?_
      (refine EndOK.val (.inr rfl) ?_; simp [resD, oneOrTup, pureD, Tryd.results3])
    by_cases hv2 : v.name = extra.name
    · repeat' (first
    | (refine H_cons ?_; simp [hx, hv, hv2, hne2])
    | (refine HD_cons ?_; simp [hx, hv, hv2, hne2])
    | (refine H_nil ?_; simp [hx, hv, hv2, hne2])
    | (refine V_sseq ?_; simp [hx, hv, hv2, hne2])
    | (refine V_scond ?_; simp [hx, hv, hv2, hne2])
    | (refine HD_nil ?_)
    | (refine hk _ ?_; clear hk k; simp only [RunK])
    | (refine V_drawV rfl (by kernel_rfl) (by kernel_rfl) fun k hk => ?_; simp [hx, hv, hv2, hne2])
    | (refine HD_guard rfl (by simp [hx, hv, hv2, hne2]) (fun hc => ?_) (fun hc => ?_) <;> (try simp [hx, hv, hv2, hne2] at hc) <;> (try (exfalso; omega)) <;> (try simp [hx, hv, hv2, hne2]))
    | (refine V_ret ?_; simp only [RunK])
    | (refine V_skip ?_; simp only [RunK])
    | (refine ⟨?_, by omega⟩)
    | (intro hc <;> (try (exfalso; omega)))
    | fail)
      refine EndW.here ?_
      (refine EndOK.val (.inr rfl) ?_; simp [resD, oneOrTup, pureD, Tryd.results3])
    repeat' (first
    | (refine H_cons ?_; simp [hx, hv, hv2])
    | (refine HD_cons ?_; simp [hx, hv, hv2])
    | (refine H_nil ?_; simp [hx, hv, hv2])
    | (refine ⟨by omega, ?_⟩)
    | (refine V_sseq ?_; simp [hx, hv, hv2])
    | (refine V_scond ?_; simp [hx, hv, hv2])
    | (refine HD_nil ?_)
    | (refine hk _ ?_; clear hk k; simp only [RunK])
    | (refine V_drawV rfl (by kernel_rfl) (by kernel_rfl) fun k hk => ?_; simp [hx, hv, hv2])
    | (refine HD_guard rfl (by simp [hx, hv, hv2]) (fun hc => ?_) (fun hc => ?_) <;> (try simp [hx, hv, hv2] at hc) <;> (try (exfalso; omega)) <;> (try simp [hx, hv, hv2]))
    | (refine V_sregion ?_; simp [hx, hv, hv2])
    | (refine V_skip ?_; simp only [RunK])
    | (refine ⟨?_, by omega⟩)
    | (intro hc <;> (try (exfalso; omega)))
    | fail)
    refine LoopW.next ⟨i + 1, by omega, take_succ_all' hx hb hv⟩ (by simp; omega) ?_
    exact (Wk.cut rfl (by simp [hn, St.lp]) (by simp [wkO, St.lp, getK_cons, getK, Ob.under, D.under, under_rowsD, under_entD]) (by simp [wkU, St.lp, keepE, getK_cons, getK, D.under]) (by simp [wkE, St.lp, keepE, getK_cons, getK] <;> (try (intros; simp_all; done)) <;> (try (intros; omega)) <;> (try grind)))
  have hge : vars.length ≤ i := by simpa using hx
  obtain rfl : i = vars.length := by omega
  rw [List.take_length] at hb
  have h5 := uses_fun extra.name _ e (Nat.le_refl _)
  have h6 := uses_fun extra.name _ f (Nat.le_refl _)
  have h7 := uses_fun name _ f (Nat.le_refl _)
  have h8 := value_fun [⟨name, f⟩] vars e
  have h9 := put_fun name f _ e (Nat.le_refl _) hthin
  have h10 := rightExp_fun (putS name f e)
  have h11 := rightExp_fun e
  have h12 := rightExp_fun f
  have h13 := value_fun [] vars (putS name f e)
  have h14 := rightExp_fun extra.body
  have h15 := value_fun [extra, ⟨name, f⟩] (vars ++ [⟨extra.name ++ [120], 0, 0⟩]) e
  have h16 := uses_fun (extra.name ++ [120]) _ e (Nat.le_refl _)
  have h17 := uses_fun (extra.name ++ [120]) _ f (Nat.le_refl _)
  have hput := fun hw he hf => @value_put name vars e f hb hw he hf
  have hspare := fun hx hvn ha hb hc hd => @value_spare name vars e f extra ⟨extra.name ++ [120], 0, 0⟩ hx hne hvn rfl ha hb hc hd
  generalize hval : valueP [⟨name, f⟩] vars e = r8 at h8 hput hspare
  generalize putS name f e = w at h9 h10 h13 hput
  generalize valueP [] vars w = r13 at h13 hput
  generalize valueP [extra, ⟨name, f⟩] (vars ++ [⟨extra.name ++ [120], 0, 0⟩]) e = r15 at h15 hspare
  obtain ⟨n8, e8⟩ := r8
  obtain ⟨n13, e13⟩ := r13
  obtain ⟨n15, e15⟩ := r15
  simp only [eagg, letsU, varsU, Exp.row_eq, List.map_cons, List.map_nil, List.map_append, List.cons_append, List.nil_append] at h5 h6 h7 h8 h9 h10 h11 h12 h13 h14 h15 h16 h17
  cases hu5 : usesS extra.name e with
  | true =>
    rw [hu5] at h5
    repeat' (first
    | (refine H_cons ?_; simp [hx])
    | (refine H_nil ?_; simp [hx])
    | (refine V_sseq ?_; simp [hx])
    | (refine V_scond ?_; simp [hx])
    | (refine V_ret ?_; simp only [RunK])
    | (refine V_exit ?_; simp [RunK])
    | (refine CallP.fun_ (h5) (by first | rfl | fail) (by first | assumption | (simp; done) | fail) (by first | (simp [hx]; done) | (simp [hx]; rfl) | fail) (by first | (simp; done) | fail) (fun d hd => ?_); subst hd; (try simp [hx]))
    | fail)
    refine EndW.here ?_
    (refine EndOK.val (.inr rfl) ?_; simp [resD, oneOrTup, pureD, Tryd.results3])
  | false =>
  cases hu6 : usesS extra.name f with
  | true =>
    rw [hu5] at h5
    rw [hu6] at h6
    repeat' (first
    | (refine H_cons ?_; simp [hx])
    | (refine H_nil ?_; simp [hx])
    | (refine V_sseq ?_; simp [hx])
    | (refine V_scond ?_; simp [hx])
    | (refine V_ret ?_; simp only [RunK])
    | (refine V_exit ?_; simp [RunK])
    | (refine CallP.fun_ (h5) (by first | rfl | fail) (by first | assumption | (simp; done) | fail) (by first | (simp [hx]; done) | (simp [hx]; rfl) | fail) (by first | (simp; done) | fail) (fun d hd => ?_); subst hd; (try simp [hx]))
    | (refine CallP.fun_ (h6) (by first | rfl | fail) (by first | assumption | (simp; done) | fail) (by first | (simp [hx]; done) | (simp [hx]; rfl) | fail) (by first | (simp; done) | fail) (fun d hd => ?_); subst hd; (try simp [hx]))
    | fail)
    refine EndW.here ?_
    (refine EndOK.val (.inr rfl) ?_; simp [resD, oneOrTup, pureD, Tryd.results3])
  | false =>
  cases hu7 : usesS name f with
  | true =>
    rw [hu5] at h5
    rw [hu6] at h6
    rw [hu7] at h7
    repeat' (first
    | (refine H_cons ?_; simp [hx])
    | (refine H_nil ?_; simp [hx])
    | (refine V_sseq ?_; simp [hx])
    | (refine V_scond ?_; simp [hx])
    | (refine V_ret ?_; simp only [RunK])
    | (refine V_exit ?_; simp [RunK])
    | (refine CallP.fun_ (h5) (by first | rfl | fail) (by first | assumption | (simp; done) | fail) (by first | (simp [hx]; done) | (simp [hx]; rfl) | fail) (by first | (simp; done) | fail) (fun d hd => ?_); subst hd; (try simp [hx]))
    | (refine CallP.fun_ (h6) (by first | rfl | fail) (by first | assumption | (simp; done) | fail) (by first | (simp [hx]; done) | (simp [hx]; rfl) | fail) (by first | (simp; done) | fail) (fun d hd => ?_); subst hd; (try simp [hx]))
    | (refine CallP.fun_ (h7) (by first | rfl | fail) (by first | assumption | (simp; done) | fail) (by first | (simp [hx]; done) | (simp [hx]; rfl) | fail) (by first | (simp; done) | fail) (fun d hd => ?_); subst hd; (try simp [hx]))
    | fail)
    refine EndW.here ?_
    (refine EndOK.val (.inr rfl) ?_; simp [resD, oneOrTup, pureD, Tryd.results3])
  | false =>
  rw [hu5] at h5
  rw [hu6] at h6
  rw [hu7] at h7
  repeat' (first
    | (refine H_cons ?_; simp [hx])
    | (refine H_nil ?_; simp [hx])
    | (refine V_sseq ?_; simp [hx])
    | (refine V_scond ?_; simp [hx])
    | (refine V_skip ?_; simp only [RunK])
    | (refine V_exit ?_; simp [RunK])
    | (refine CallP.fun_ (h5) (by first | rfl | fail) (by first | assumption | (simp; done) | fail) (by first | (simp [hx]; done) | (simp [hx]; rfl) | fail) (by first | (simp; done) | fail) (fun d hd => ?_); subst hd; (try simp [hx]))
    | (refine CallP.fun_ (h6) (by first | rfl | fail) (by first | assumption | (simp; done) | fail) (by first | (simp [hx]; done) | (simp [hx]; rfl) | fail) (by first | (simp; done) | fail) (fun d hd => ?_); subst hd; (try simp [hx]))
    | (refine CallP.fun_ (h7) (by first | rfl | fail) (by first | assumption | (simp; done) | fail) (by first | (simp [hx]; done) | (simp [hx]; rfl) | fail) (by first | (simp; done) | fail) (fun d hd => ?_); subst hd; (try simp [hx]))
    | (refine CallP.fun_ (h8) (by first | rfl | fail) (by first | assumption | (simp; done) | fail) (by first | (simp [hx]; done) | (simp [hx]; rfl) | fail) (by first | (simp; done) | fail) (fun d hd => ?_); subst hd; (try simp [hx]))
    | (refine CallP.fun_ (h9) (by first | rfl | fail) (by first | assumption | (simp; done) | fail) (by first | (simp [hx]; done) | (simp [hx]; rfl) | fail) (by first | (simp; done) | fail) (fun d hd => ?_); subst hd; (try simp [hx]))
    | fail)
  apply CallP_share (P := Tryd.prog) (Γ := Γ) (fop := .func 15) (args := [.tmp 129]) (dst := some 130) (S := { n := 184, env := [(129, .u (.agg [.int .i64 extra.body.op, .int .i64 extra.body.n, .int .i64 extra.body.unit, .str extra.body.s, .sl (extra.body.args.map Exp.row)])), (0, .u (.str name)), (3, .u (.sl (vars.map fun v => [.str v.name, .int .i64 v.unit, .int .i64 v.n]))), (6, .ptr 0 0), (7, .ptr 1 0), (9, .ptr 2 0), (11, .u (.bool true)), (13, .vec 3 1), (14, .u (.int .i64 n8)), (15, .u (.int .i64 e8))], obs := [(0, .box [.u (.int .i64 e.op), .u (.int .i64 e.n), .u (.int .i64 e.unit), .u (.str e.s), .u (.sl (e.args.map Exp.row))]), (1, .box [.u (.int .i64 f.op), .u (.int .i64 f.n), .u (.int .i64 f.unit), .u (.str f.s), .u (.sl (f.args.map Exp.row))]), (2, .box [.u (.str extra.name), .u (.int .i64 extra.body.op), .u (.int .i64 extra.body.n), .u (.int .i64 extra.body.unit), .u (.str extra.body.s), .u (.sl (extra.body.args.map Exp.row))]), (3, .vec 27 6 [[.u (.str name), .u (.int .i64 f.op), .u (.int .i64 f.n), .u (.int .i64 f.unit), .u (.str f.s), .u (.sl (f.args.map Exp.row))]])], next := 4 })
  case main =>
    intro key
    cases hr10 : rightB 12 w with
    | false =>
      rw [hr10] at h10
      repeat' (first
    | (refine H_cons ?_; simp)
    | (refine H_nil ?_; simp)
    | (refine V_sseq ?_; simp)
    | (refine V_scond ?_; simp)
    | (refine V_skip ?_; simp only [RunK])
    | (refine CallP.fun_ (h10) (by first | rfl | fail) (by first | assumption | (simp; done) | fail) (by first | (simp; done) | (simp; rfl) | fail) (by first | (simp; done) | fail) (fun d hd => ?_); subst hd; (try simp))
    | fail)
      refine CallP_wk ?_ key
      exact (Wk.auto _ (by simp [rhoL, idOf, St.lp, keepE, getK_cons, getK, getK_del, getK_setOb] <;> rfl) rfl (by simp [hn]) (by simp [rhoF, wkER, St.lp, keepE, getK_cons, getK, getK_del, getK_setOb, D.under, D.le, D.ren] <;> (try (intros; simp_all; done)) <;> (try omega)) (by simp [rhoF, wkR, St.lp, getK_cons, getK, getK_del, getK_setOb, obR, leU, pureRow, pureRows, Ob.under, D.under, D.le, D.ren] <;> (try (intros; simp_all; done)) <;> (try omega)) (by simp [rhoF]))
    | true =>
    cases hr11 : rightB 12 e with
    | false =>
      rw [hr10] at h10
      rw [hr11] at h11
      repeat' (first
    | (refine H_cons ?_; simp)
    | (refine H_nil ?_; simp)
    | (refine V_sseq ?_; simp)
    | (refine V_scond ?_; simp)
    | (refine V_skip ?_; simp only [RunK])
    | (refine CallP.fun_ (h10) (by first | rfl | fail) (by first | assumption | (simp; done) | fail) (by first | (simp; done) | (simp; rfl) | fail) (by first | (simp; done) | fail) (fun d hd => ?_); subst hd; (try simp))
    | (refine CallP.fun_ (h11) (by first | rfl | fail) (by first | assumption | (simp; done) | fail) (by first | (simp; done) | (simp; rfl) | fail) (by first | (simp; done) | fail) (fun d hd => ?_); subst hd; (try simp))
    | fail)
      refine CallP_wk ?_ key
      exact (Wk.auto _ (by simp [rhoL, idOf, St.lp, keepE, getK_cons, getK, getK_del, getK_setOb] <;> rfl) rfl (by simp [hn]) (by simp [rhoF, wkER, St.lp, keepE, getK_cons, getK, getK_del, getK_setOb, D.under, D.le, D.ren] <;> (try (intros; simp_all; done)) <;> (try omega)) (by simp [rhoF, wkR, St.lp, getK_cons, getK, getK_del, getK_setOb, obR, leU, pureRow, pureRows, Ob.under, D.under, D.le, D.ren] <;> (try (intros; simp_all; done)) <;> (try omega)) (by simp [rhoF]))
    | true =>
    cases hr12 : rightB 12 f with
    | false =>
      rw [hr10] at h10
      rw [hr11] at h11
      rw [hr12] at h12
      repeat' (first
    | (refine H_cons ?_; simp)
    | (refine H_nil ?_; simp)
    | (refine V_sseq ?_; simp)
    | (refine V_scond ?_; simp)
    | (refine V_skip ?_; simp only [RunK])
    | (refine CallP.fun_ (h10) (by first | rfl | fail) (by first | assumption | (simp; done) | fail) (by first | (simp; done) | (simp; rfl) | fail) (by first | (simp; done) | fail) (fun d hd => ?_); subst hd; (try simp))
    | (refine CallP.fun_ (h11) (by first | rfl | fail) (by first | assumption | (simp; done) | fail) (by first | (simp; done) | (simp; rfl) | fail) (by first | (simp; done) | fail) (fun d hd => ?_); subst hd; (try simp))
    | (refine CallP.fun_ (h12) (by first | rfl | fail) (by first | assumption | (simp; done) | fail) (by first | (simp; done) | (simp; rfl) | fail) (by first | (simp; done) | fail) (fun d hd => ?_); subst hd; (try simp))
    | fail)
      refine CallP_wk ?_ key
      exact (Wk.auto _ (by simp [rhoL, idOf, St.lp, keepE, getK_cons, getK, getK_del, getK_setOb] <;> rfl) rfl (by simp [hn]) (by simp [rhoF, wkER, St.lp, keepE, getK_cons, getK, getK_del, getK_setOb, D.under, D.le, D.ren] <;> (try (intros; simp_all; done)) <;> (try omega)) (by simp [rhoF, wkR, St.lp, getK_cons, getK, getK_del, getK_setOb, obR, leU, pureRow, pureRows, Ob.under, D.under, D.le, D.ren] <;> (try (intros; simp_all; done)) <;> (try omega)) (by simp [rhoF]))
    | true =>
    rw [hr10] at h10
    rw [hr11] at h11
    rw [hr12] at h12
    have hp := hput hr10 hr11 hr12
    simp only [Prod.mk.injEq] at hp
    obtain ⟨rfl, rfl⟩ := hp
    repeat' (first
    | (refine H_cons ?_; simp)
    | (refine H_nil ?_; simp)
    | (refine V_sseq ?_; simp)
    | (refine V_scond ?_; simp)
    | (refine V_skip ?_; simp only [RunK])
    | (refine CallP.fun_ (h10) (by first | rfl | fail) (by first | assumption | (simp; done) | fail) (by first | (simp; done) | (simp; rfl) | fail) (by first | (simp; done) | fail) (fun d hd => ?_); subst hd; (try simp))
    | (refine CallP.fun_ (h11) (by first | rfl | fail) (by first | assumption | (simp; done) | fail) (by first | (simp; done) | (simp; rfl) | fail) (by first | (simp; done) | fail) (fun d hd => ?_); subst hd; (try simp))
    | (refine CallP.fun_ (h12) (by first | rfl | fail) (by first | assumption | (simp; done) | fail) (by first | (simp; done) | (simp; rfl) | fail) (by first | (simp; done) | fail) (fun d hd => ?_); subst hd; (try simp))
    | (refine CallP.fun_ (h13) (by first | rfl | fail) (by first | assumption | (simp; done) | fail) (by first | (simp; done) | (simp; rfl) | fail) (by first | (simp; done) | fail) (fun d hd => ?_); subst hd; (try simp))
    | fail)
    refine CallP_wk ?_ key
    exact (Wk.auto _ (by simp [rhoL, idOf, St.lp, keepE, getK_cons, getK, getK_del, getK_setOb] <;> rfl) rfl (by simp [hn]) (by simp [rhoF, wkER, St.lp, keepE, getK_cons, getK, getK_del, getK_setOb, D.under, D.le, D.ren] <;> (try (intros; simp_all; done)) <;> (try omega)) (by simp [rhoF, wkR, St.lp, getK_cons, getK, getK_del, getK_setOb, obR, leU, pureRow, pureRows, Ob.under, D.under, D.le, D.ren] <;> (try (intros; simp_all; done)) <;> (try omega)) (by simp [rhoF]))
  case key =>
    cases hr14 : rightB 12 extra.body with
    | false =>
      rw [hr14] at h14
      repeat' (first
    | (refine H_cons ?_; simp)
    | (refine H_nil ?_; simp)
    | (refine V_sseq ?_; simp)
    | (refine V_scond ?_; simp)
    | (refine V_ret ?_; simp only [RunK])
    | (refine CallP.fun_ (h14) (by first | rfl | fail) (by first | assumption | (simp; done) | fail) (by first | (simp; done) | (simp; rfl) | fail) (by first | (simp; done) | fail) (fun d hd => ?_); subst hd; (try simp))
    | fail)
      refine EndW.here ?_
      (refine EndOK.val (.inr rfl) ?_; simp [resD, oneOrTup, pureD, Tryd.results3])
    | true =>
    rw [hr14] at h14
    cases hu16 : usesS (extra.name ++ [120]) e with
    | true =>
      rw [hu16] at h16
      repeat' (first
    | (refine H_cons ?_; simp)
    | (refine HD2_val rfl ?_; simp)
    | (refine HD2_chg rfl ?_; simp)
    | (refine H_nil ?_; simp)
    | (refine ⟨by omega, ?_⟩)
    | (refine V_sseq ?_; simp)
    | (refine V_scond ?_; simp)
    | (refine HD2_nil (hC _ (by kernel_rfl)) (hk _ ?_); clear hC hk C k; simp only [RunK])
    | (refine V_drawE rfl (by kernel_rfl) (by kernel_rfl) (by simp [hn]) fun C k hC hk => ?_; simp)
    | (refine V_ret ?_; simp only [RunK])
    | (refine V_skip ?_; simp only [RunK])
    | (refine CallP.fun_ (h14) (by first | rfl | fail) (by first | assumption | (simp; done) | fail) (by first | (simp; done) | (simp; rfl) | fail) (by first | (simp; done) | fail) (fun d hd => ?_); subst hd; (try simp))
    | (refine CallV.fun_ (h15) (by first | rfl | fail) (by first | assumption | (simp; done) | fail) (by first | (simp; done) | (simp; rfl) | fail) (by first | (simp; done) | fail) ?_ <;> (try simp))
    | (refine CallP.fun_ (h16) (by first | rfl | fail) (by first | assumption | (simp; done) | fail) (by first | (simp; done) | (simp; rfl) | fail) (by first | (simp; done) | fail) (fun d hd => ?_); subst hd; (try simp))
    | fail)
      refine EndW.here ?_
      (refine EndOK.val (.inr rfl) ?_; simp [resD, oneOrTup, pureD, Tryd.results3])
    | false =>
    cases hu17 : usesS (extra.name ++ [120]) f with
    | true =>
      rw [hu16] at h16
      rw [hu17] at h17
      repeat' (first
    | (refine H_cons ?_; simp)
    | (refine HD2_val rfl ?_; simp)
    | (refine HD2_chg rfl ?_; simp)
    | (refine H_nil ?_; simp)
    | (refine ⟨by omega, ?_⟩)
    | (refine V_sseq ?_; simp)
    | (refine V_scond ?_; simp)
    | (refine HD2_nil (hC _ (by kernel_rfl)) (hk _ ?_); clear hC hk C k; simp only [RunK])
    | (refine V_drawE rfl (by kernel_rfl) (by kernel_rfl) (by simp [hn]) fun C k hC hk => ?_; simp)
    | (refine V_ret ?_; simp only [RunK])
    | (refine V_skip ?_; simp only [RunK])
    | (refine CallP.fun_ (h14) (by first | rfl | fail) (by first | assumption | (simp; done) | fail) (by first | (simp; done) | (simp; rfl) | fail) (by first | (simp; done) | fail) (fun d hd => ?_); subst hd; (try simp))
    | (refine CallV.fun_ (h15) (by first | rfl | fail) (by first | assumption | (simp; done) | fail) (by first | (simp; done) | (simp; rfl) | fail) (by first | (simp; done) | fail) ?_ <;> (try simp))
    | (refine CallP.fun_ (h16) (by first | rfl | fail) (by first | assumption | (simp; done) | fail) (by first | (simp; done) | (simp; rfl) | fail) (by first | (simp; done) | fail) (fun d hd => ?_); subst hd; (try simp))
    | (refine CallP.fun_ (h17) (by first | rfl | fail) (by first | assumption | (simp; done) | fail) (by first | (simp; done) | (simp; rfl) | fail) (by first | (simp; done) | fail) (fun d hd => ?_); subst hd; (try simp))
    | fail)
      refine EndW.here ?_
      (refine EndOK.val (.inr rfl) ?_; simp [resD, oneOrTup, pureD, Tryd.results3])
    | false =>
    rw [hu16] at h16
    rw [hu17] at h17
    by_cases hnx : name = extra.name ++ [120]
    · repeat' (first
    | (refine H_cons ?_; simp [hnx])
    | (refine HD2_val rfl ?_; simp [hnx])
    | (refine HD2_chg rfl ?_; simp [hnx])
    | (refine H_nil ?_; simp [hnx])
    | (refine ⟨by omega, ?_⟩)
    | (refine V_sseq ?_; simp [hnx])
    | (refine V_scond ?_; simp [hnx])
    | (refine HD2_nil (hC _ (by kernel_rfl)) (hk _ ?_); clear hC hk C k; simp only [RunK])
    | (refine V_drawE rfl (by kernel_rfl) (by kernel_rfl) (by simp [hn]) fun C k hC hk => ?_; simp [hnx])
    | (refine V_ret ?_; simp only [RunK])
    | (refine V_skip ?_; simp only [RunK])
    | (refine CallP.fun_ (h14) (by first | rfl | fail) (by first | assumption | (simp; done) | fail) (by first | (simp [hnx]; done) | (simp [hnx]; rfl) | fail) (by first | (simp; done) | fail) (fun d hd => ?_); subst hd; (try simp [hnx]))
    | (refine CallV.fun_ (h15) (by first | rfl | fail) (by first | assumption | (simp; done) | fail) (by first | (simp [hnx]; done) | (simp [hnx]; rfl) | fail) (by first | (simp; done) | fail) ?_ <;> (try simp [hnx]))
    | (refine CallP.fun_ (h16) (by first | rfl | fail) (by first | assumption | (simp; done) | fail) (by first | (simp [hnx]; done) | (simp [hnx]; rfl) | fail) (by first | (simp; done) | fail) (fun d hd => ?_); subst hd; (try simp [hnx]))
    | (refine CallP.fun_ (h17) (by first | rfl | fail) (by first | assumption | (simp; done) | fail) (by first | (simp [hnx]; done) | (simp [hnx]; rfl) | fail) (by first | (simp; done) | fail) (fun d hd => ?_); subst hd; (try simp [hnx]))
    | fail)
      refine EndW.here ?_
      (refine EndOK.val (.inr rfl) ?_; simp [resD, oneOrTup, pureD, Tryd.results3])
    · have hp := hspare hr14 hnx hu5 hu6 hu16 hu17
      simp only [Prod.mk.injEq] at hp
      obtain ⟨rfl, rfl⟩ := hp
      repeat' (first
    | (refine H_cons ?_; simp [hnx])
    | (refine HD2_val rfl ?_; simp [hnx])
    | (refine HD2_chg rfl ?_; simp [hnx])
    | (refine H_nil ?_; simp [hnx])
    | (refine ⟨by omega, ?_⟩)
    | (refine V_sseq ?_; simp [hnx])
    | (refine V_scond ?_; simp [hnx])
    | (refine HD2_nil (hC _ (by kernel_rfl)) (hk _ ?_); clear hC hk C k; simp only [RunK])
    | (refine V_drawE rfl (by kernel_rfl) (by kernel_rfl) (by simp [hn]) fun C k hC hk => ?_; simp [hnx])
    | (refine V_ret ?_; simp only [RunK])
    | (refine V_skip ?_; simp only [RunK])
    | (refine CallP.fun_ (h14) (by first | rfl | fail) (by first | assumption | (simp; done) | fail) (by first | (simp [hnx]; done) | (simp [hnx]; rfl) | fail) (by first | (simp; done) | fail) (fun d hd => ?_); subst hd; (try simp [hnx]))
    | (refine CallV.fun_ (h15) (by first | rfl | fail) (by first | assumption | (simp; done) | fail) (by first | (simp [hnx]; done) | (simp [hnx]; rfl) | fail) (by first | (simp; done) | fail) ?_ <;> (try simp [hnx]))
    | (refine CallP.fun_ (h16) (by first | rfl | fail) (by first | assumption | (simp; done) | fail) (by first | (simp [hnx]; done) | (simp [hnx]; rfl) | fail) (by first | (simp; done) | fail) (fun d hd => ?_); subst hd; (try simp [hnx]))
    | (refine CallP.fun_ (h17) (by first | rfl | fail) (by first | assumption | (simp; done) | fail) (by first | (simp [hnx]; done) | (simp [hnx]; rfl) | fail) (by first | (simp; done) | fail) (fun d hd => ?_); subst hd; (try simp [hnx]))
    | fail)
      refine EndW.here ?_
      (refine EndOK.val (.inr rfl) ?_; simp [resD, oneOrTup, pureD, Tryd.results3])
end Go.Proofs.YtfcopibncpkdoaaDoor
