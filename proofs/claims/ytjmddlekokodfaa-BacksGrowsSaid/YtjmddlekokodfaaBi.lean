/- Layer 26: the reference: moving debts: the walk. -/
import Derived.Test.YtjmddlekokodfaaBg
import Derived.Test.YtjmddlekokodfaaBh
set_option linter.all false
set_option maxRecDepth 100000
set_option maxHeartbeats 8000000
set_option linter.all false
namespace Go.Proofs.Ytjmddlekokodfaa
open Go Go.VL
theorem lst_snoc (n : Nat) (f : Nat → Int) : lst (n + 1) f = lst n f ++ [f n] := by simp [lst, List.range_succ]
theorem levels_len {n : Nat} {ls : List (List Nat)} (h : OkL n ls) (hne : ∀ l ∈ ls, l ≠ []) : ls.length ≤ n := by
  have hd : ∀ (ls : List (List Nat)), OkL n ls → (∀ l ∈ ls, l ≠ []) → ls.flatten.Nodup ∧ ls.length ≤ ls.flatten.length := fun ls => by
    induction ls with
    | nil => intro _ _; simp
    | cons l ls ih =>
      intro h hne
      obtain ⟨h1, h2⟩ := ih h.tail fun m hm => hne m (by simp [hm])
      have h3 : 0 < l.length := List.length_pos_iff.2 (hne l (by simp))
      refine ⟨?_, by simp only [List.flatten_cons, List.length_append, List.length_cons]; omega⟩
      rw [List.flatten_cons, List.nodup_append]
      refine ⟨h.nd l (by simp), h1, fun x hx y hy e => ?_⟩
      obtain ⟨m, hm, hym⟩ := List.mem_flatten.1 hy
      exact (List.pairwise_cons.1 h.ap).1 m hm x hx (e ▸ hym)
  obtain ⟨h1, h2⟩ := hd ls h hne
  have h3 := seen_len h1 (fun i hi => by
    obtain ⟨m, hm, him⟩ := List.mem_flatten.1 hi
    exact h.lt m hm i him)
  omega
theorem lvls_ne (n : Nat) (B : List (List Int)) : ∀ (f : Nat) (seen last : List Nat), ∀ l ∈ lvls n B f seen last, l ≠ []
  | 0, _, _ => by simp [lvls]
  | f + 1, seen, last => by
    unfold lvls
    split
    · simp
    · rename_i h
      intro l hl
      rcases List.mem_cons.1 hl with rfl | hl
      · exact h
      · exact lvls_ne n B f _ _ l hl
theorem levelsOf_len (n : Nat) (B : List (List Int)) (d : Nat) : (levelsOf n B d).length ≤ n := levels_len (levelsOf_ok n B d) (lvls_ne n B _ _ _)
structure InvR (p : Nat) (M : Nat → Int) (D : Int) (ls : List (List Nat)) (k : Nat) (q : Nat → Int) (a : Int) : Prop where
  i5 : k ≤ ls.length
  i6 : ∀ i, i < p → 0 ≤ q i ∧ q i ≤ M i
  i7 : 0 ≤ a
  i8 : a ≤ maxC
  i10 : ∀ i, (goL ls M D).1 i = q i + (goL (ls.drop k) (fun j => M j - q j) a).1 i
  i11 : (goL ls M D).2 = (goL (ls.drop k) (fun j => M j - q j) a).2
attribute [local simp] hcons hstep evPure opd uOf putOK St.put St.at getK binD binI binS binB nilD aggD eqUs cmpK lookD lookR rangeD nextD entryD keyD valU keyU lookK mkV entD_nil lookK_entD updK_entD1 updK_entD2 updK_entD3 allUE allUE_entD makeMapD mapUpdD mapEff updK valM Key.kk shiftI arith unD convD pickD loadD cellsAt fieldAddrD fieldD indexAddrD indexD sliceD cutD lenD minmaxD nilCheckD buildD fillD cellsD isOne ones setAll mkAgg allU allocD boxD storeD St.add buildSliceD appendD rowsOf makeD setOb getK_setOb getK_del getK_cons stripL strip guardTmp entry chunks zcells valD argsV argsW argW argU1 argU0 argsU0 argsU1 calleeOf scalarD scalarU delAll effD St.effS RK_seq RK_seq_ret RK_seq_exit RK_blk RK_blk_ret RK_blk_exit RK_loop RK_loop_ret RK_loop_exit RK_done vs_seq vs_block vs_skip vs_label vs_exit vs_ret vs_cond vs_region vs_loop vs_draw vs_range vs_scope applyW mkD rdIds lentIds callOf calleeOf freeOp D.ids Op.operands Call.operands isEffOp IntKind.bits allU2 allU2_append List.take_of_length_le List.range_succ
attribute [local irreducible] V G H HD HD2 RunK Eff CallP CallV EndOK Fun Ret FinOK LoopI LoopW EndW
theorem rmove_fun (debts : List Int) (B : List (List Int)) (means : List Int) (h1 : debts.length ≤ 60) (h2 : B.length ≤ 1000) (h3 : means.length ≤ 1000) (h4 : ∀ r ∈ B, r.length ≤ 1000) :
    Fun Try.prog 11 [.u (ints debts), .u (lists B), .u (ints means)] (· = moveD debts B means) := by
  have hrf := rright_fun debts B means (by omega) (by omega) (by omega) (fun r hr => by have := h4 r hr; omega)
  unfold moveD
  by_cases hr : rightB debts B means = true
  case neg =>
    rw [if_neg hr]
    rw [show rightB debts B means = false by simpa using hr] at hrf
    (refine Fun.of_bodyW Try.func11 rfl (by simp) fun Γ hn => ?_); simp only [entry, List.zipIdx_cons, List.zipIdx_nil, List.map_cons, List.map_nil, Nat.zero_add, Try.ntmps11]
    repeat' (first
    | (refine H_cons ?_; simp)
    | (refine H_nil ?_; simp)
    | (refine V_sseq ?_; simp)
    | (refine V_scond ?_; simp)
    | (refine V_ret ?_; simp only [RK_seq, RK_seq_ret, RK_seq_exit, RK_blk, RK_blk_ret, RK_blk_exit, RK_loop, RK_loop_ret, RK_loop_exit, RK_done])
    | (refine CallP.fun_ (hrf) (by first | rfl | fail) (by first | assumption | (simp; done) | fail) (by first | (simp; done) | (simp; rfl) | fail) (by first | (simp; done) | fail) (fun d hd => ?_); subst hd; (try simp))
    | fail)
    all_goals
      refine EndW.norm (EndW.here ?_)
      (refine EndOK.val (.inr rfl) ?_; simp [resD, oneOrTup, pureD, Try.results11, frz_obs, frz_env, norm_obs, norm_env, frz, frzOb, frzS, fv, fzVec, fzMap, fzBox, frzObS, frz_entD, frz_rowsD, normD, normU, norm1, normOb])
  rw [if_pos hr]
  rw [hr] at hrf
  obtain ⟨hn60, hml, hB, hM, hD⟩ := right_out hr
  unfold moveP moveL
  have hdg : ∀ d, d < debts.length → debts[d]? = some (Dof debts d) := fun d hd => by simp [Dof, List.getD_eq_getElem?_getD, hd]
  have hmr : intR means = intR (lst debts.length (Dof means)) := by rw [lst_of hml]
  generalize hDe : Dof debts = De at hD hdg
  generalize hMe : Dof means = Me at hM hmr
  generalize hne : debts.length = n at *
  (refine Fun.of_bodyW Try.func11 rfl (by simp) fun Γ hn => ?_); simp only [entry, List.zipIdx_cons, List.zipIdx_nil, List.map_cons, List.map_nil, Nat.zero_add, Try.ntmps11]
  have hlr0 : lenR 1 (intR (lst n Me)) := by simp [intR]
  have hon0 : onesR (intR (lst n Me)) := by
    intro r hr
    obtain ⟨z, _, rfl⟩ := List.mem_map.1 hr
    rfl
  repeat' (first
    | (refine H_cons ?_; simp [hne, intR_rows, hmr, hlr0, hon0, intR_len, lst_len])
    | (refine H_nil ?_; simp [hne, intR_rows, hmr, hlr0, hon0, intR_len, lst_len])
    | (refine ⟨by omega, ?_⟩)
    | (refine V_sseq ?_; simp [hne, intR_rows, hmr, hlr0, hon0, intR_len, lst_len])
    | (refine V_scond ?_; simp [hne, intR_rows, hmr, hlr0, hon0, intR_len, lst_len])
    | (refine V_sblock ?_; simp [hne, intR_rows, hmr, hlr0, hon0, intR_len, lst_len])
    | (refine V_skip ?_; simp only [RK_seq, RK_seq_ret, RK_seq_exit, RK_blk, RK_blk_ret, RK_blk_exit, RK_loop, RK_loop_ret, RK_loop_exit, RK_done])
    | (refine CallP.fun_ (hrf) (by first | rfl | fail) (by first | assumption | (simp; done) | fail) (by first | (simp [hne, intR_rows, hmr, hlr0, hon0, intR_len, lst_len]; done) | (simp [hne, intR_rows, hmr, hlr0, hon0, intR_len, lst_len]; rfl) | fail) (by first | (simp; done) | fail) (fun d hd => ?_); subst hd; (try simp [hne, intR_rows, hmr, hlr0, hon0, intR_len, lst_len]))
    | fail)
  refine V_wk _ (Wk.own 10 22 1 (by decide) rfl) ?_
  simp [St.own]
  refine V_loopN (α := { p : Nat // p ≤ n }) [0, 1, 9] (fun p => [(10, .vec 2 p.1), (11, .u (.int .i64 p.1))])
    (fun p => (1, .vec 3 1 (intR (lst n Me))) :: (2, .vec 22 1 (idR 16 n p.1)) :: fam 16 (rowsOb 3 n (fun _ _ => 0) p.1)) (fun p => p.1 + 16) (fun p => n - p.1) ⟨0, by omega⟩ ?_ ?_
  · exact (Wk.cut rfl (by simp [hn, St.lp]) (by simp [wkO, wkO_tail, endsIn_here, endsIn_cons, del_cons, del_fam, St.lp, getK_cons, getK, Ob.under, D.under, under_rowsD, under_entD, rowsOb, fam, idR_zero, pure_intR, under_intR, hml, intR_rows, hmr]) (by simp [wkU, St.lp, keepE, getK_cons, getK, D.under, rowsOb, fam, idR_zero, pure_intR, under_intR, hml, intR_rows, hmr]) (by simp [wkE, St.lp, keepE, getK_cons, getK, rowsOb, fam, idR_zero, pure_intR, under_intR, hml, intR_rows, hmr] <;> (try (intros; simp_all; done)) <;> (try (intros; omega)) <;> (try grind)))
  rintro ⟨p, hp⟩
  simp [St.lp, St.only, keepE, getK_cons, getK]
  by_cases hlt : p < n
  · have hrep : List.replicate n [D.u (.int .i64 0)] = intR (lst n fun _ => 0) := by rw [intR_rep, lst_rep]
    have hsn := idR_snoc 16 n p
    have hlr := idR_lenR 16 n p
    repeat' (first
    | (refine H_cons ?_; simp [hlt, hne, hrep, hsn, hlr, idR_len, intR_len, lst_len, Nat.add_assoc])
    | (refine H_nil ?_; simp [hlt, hne, hrep, hsn, hlr, idR_len, intR_len, lst_len, Nat.add_assoc])
    | (refine ⟨by omega, ?_⟩)
    | (refine V_sseq ?_; simp [hlt, hne, hrep, hsn, hlr, idR_len, intR_len, lst_len, Nat.add_assoc])
    | (refine V_scond ?_; simp [hlt, hne, hrep, hsn, hlr, idR_len, intR_len, lst_len, Nat.add_assoc])
    | (refine V_sregion ?_; simp [hlt, hne, hrep, hsn, hlr, idR_len, intR_len, lst_len, Nat.add_assoc])
    | (refine V_skip ?_; simp only [RK_seq, RK_seq_ret, RK_seq_exit, RK_blk, RK_blk_ret, RK_blk_exit, RK_loop, RK_loop_ret, RK_loop_exit, RK_done])
    | fail)
    refine LoopW.next ⟨p + 1, by omega⟩ (by simp; omega) ?_
    exact (Wk.ren1 (2) (p + 18) rfl (by simp [hn]) (by simp [hn]) (by simp [pure_intR, under_intR, rowsOb_snoc, fam_snoc, wkR_append, rowsOb_len, rowsOb_pure, idR_fix1, Nat.add_assoc, Nat.add_comm 1]) (by simp [wkER, rho1, St.lp, keepE, getK_cons, getK, getK_del, getK_setOb, D.under, D.le, D.ren, pure_intR, under_intR, rowsOb_snoc, fam_snoc, wkR_append, rowsOb_len, rowsOb_pure, idR_fix1, Nat.add_assoc, Nat.add_comm 1] <;> (try (intros; simp_all; done)) <;> (try omega)) (by simp [wkR, wkR_tail1, endsIn_here, endsIn_cons, del_cons, del_fam, rho1, St.lp, getK_cons, getK, getK_del, getK_setOb, obR, leU, pureRow, pureRows, Ob.under, D.under, D.le, D.ren, pure_intR, under_intR, rowsOb_snoc, fam_snoc, wkR_append, rowsOb_len, rowsOb_pure, idR_fix1, Nat.add_assoc, Nat.add_comm 1] <;> (try (intros; simp_all; done)) <;> (try omega)))
  obtain rfl : p = n := by omega
  repeat' (first
    | (refine H_cons ?_; simp [hne])
    | (refine H_nil ?_; simp [hne])
    | (refine V_sseq ?_; simp [hne])
    | (refine V_scond ?_; simp [hne])
    | (refine V_sblock ?_; simp [hne])
    | (refine V_exit ?_; simp [RK_seq, RK_seq_ret, RK_seq_exit, RK_blk, RK_blk_ret, RK_blk_exit, RK_loop, RK_loop_ret, RK_loop_exit, RK_done])
    | fail)
  refine V_wk _ (Wk.own 12 3 1 (by decide) rfl) ?_
  simp [St.own]
  have hOk := fun d => meansAt_ok (B := B) hM (fun d hd => (hD d hd).1) d
  refine V_loopO (α := { d : Nat // d ≤ p }) [0, 1, 9, 10] (fun d => [(12, .vec 3 d.1), (13, .u (.int .i64 d.1))])
    (fun d => (1, .vec 3 1 (intR (lst p (meansAt p B De Me d.1)))) :: (2, .vec 22 1 (idR 16 p p)) :: (3, .vec 3 1 (intR (lst d.1 (leftAt p B De Me)))) :: fam 16 (rowsOb 3 p (paidTo p B De Me d.1) p)) (p + 16) (fun d => p - d.1) ⟨0, by omega⟩ ?_ ?_
  · have e2 : rowsOb 3 p (paidTo p B De Me 0) p = rowsOb 3 p (fun _ _ => 0) p := rowsOb_ext fun i _ j _ => by simp [paidTo]
    have e1 : intR (lst 0 (leftAt p B De Me)) = [] := rfl
    exact (Wk.ren1 (3) (p + 16) rfl (by simp [hn]) (by simp [hn]) (by simp [pure_intR, under_intR, rowsOb_len, rowsOb_pure, idR_fix1, Nat.add_assoc, e1, e2, meansAt]) (by simp [wkER, rho1, St.lp, keepE, getK_cons, getK, getK_del, getK_setOb, D.under, D.le, D.ren, pure_intR, under_intR, rowsOb_len, rowsOb_pure, idR_fix1, Nat.add_assoc, e1, e2, meansAt] <;> (try (intros; simp_all; done)) <;> (try omega)) (by simp [wkR, wkR_tail1, endsIn_here, endsIn_cons, del_cons, del_fam, rho1, St.lp, getK_cons, getK, getK_del, getK_setOb, obR, leU, pureRow, pureRows, Ob.under, D.under, D.le, D.ren, pure_intR, under_intR, rowsOb_len, rowsOb_pure, idR_fix1, Nat.add_assoc, e1, e2, meansAt] <;> (try (intros; simp_all; done)) <;> (try omega)))
  rintro ⟨d, hd⟩
  simp [St.lp, St.only, keepE, getK_cons, getK]
  by_cases hlt : d < p
  case neg =>
    obtain rfl : d = p := by omega
    repeat' (first
    | (refine H_cons ?_; simp [hne])
    | (refine H_nil ?_; simp [hne])
    | (refine V_sseq ?_; simp [hne])
    | (refine V_scond ?_; simp [hne])
    | (refine V_ret ?_; simp only [RK_seq, RK_seq_ret, RK_seq_exit, RK_blk, RK_blk_ret, RK_blk_exit, RK_loop, RK_loop_ret, RK_loop_exit, RK_done])
    | (refine V_exit ?_; simp [RK_seq, RK_seq_ret, RK_seq_exit, RK_blk, RK_blk_ret, RK_blk_exit, RK_loop, RK_loop_ret, RK_loop_exit, RK_done])
    | fail)
    have e2 : rowsOb 3 d (paidTo d B De Me d) d = rowsOb 3 d (paidAt d B De Me) d := rowsOb_ext fun i _ j hj => by simp [paidTo, hj]
    rw [e2]
    have hro : rowsOb 3 d (paidAt d B De Me) d = ((matL d (paidAt d B De Me)).map fun l => l.map fun z => [U.int .i64 z]).map fun r => Ob.vec 3 1 (rowsD r) := by simp [rowsOb, matL, intR_rows]
    have hml2 : ((matL d (paidAt d B De Me)).map fun l => l.map fun z => [U.int .i64 z]).length = d := by simp [matL]
    refine EndW.wk { n := Try.f11.ntmps, env := [(6, .vec 2 d), (7, .vec 3 d), (8, .u (.int .i64 0))], obs := (2, .vec 22 1 (idR 16 d d)) :: (fam 16 (rowsOb 3 d (paidAt d B De Me) d) ++ [(3, .vec 3 1 (intR (lst d (leftAt d B De Me))))]), next := d + 16 }
      (Wk.cut rfl (by simp [hn, St.lp]) (by simp [wkO, wkO_tail, endsIn_here, endsIn_cons, del_cons, del_fam, St.lp, getK_cons, getK, Ob.under, D.under, under_rowsD, under_entD, wkO_append, pure_intR, under_intR, rowsOb_len, rowsOb_pure, idR_under2, Nat.add_assoc]) (by simp [wkU, St.lp, keepE, getK_cons, getK, D.under, wkO_append, pure_intR, under_intR, rowsOb_len, rowsOb_pure, idR_under2, Nat.add_assoc]) (by simp [wkE, St.lp, keepE, getK_cons, getK, wkO_append, pure_intR, under_intR, rowsOb_len, rowsOb_pure, idR_under2, Nat.add_assoc] <;> (try (intros; simp_all; done)) <;> (try (intros; omega)) <;> (try grind))) ?_
    refine EndW.wk _ (Wk.frzFam (j := 2) (e2 := 22) (e := 3) (sz := 1) (m := d) [(3, .vec 3 1 (intR (lst d (leftAt d B De Me))))] ((matL d (paidAt d B De Me)).map fun l => l.map fun z => [U.int .i64 z]) 16 [] _ (by omega) (fun r hr => ?_) (by simp [outD]) (fun i ob hi => ?_) (by rw [hml2, hro]; rfl)) ?_
    · obtain ⟨l, hl, rfl⟩ := List.mem_map.1 hr
      obtain ⟨i, _, rfl⟩ := List.mem_map.1 hl
      simp [lst]
    · simp [getK_cons, getK] at hi
      omega
    simp only [List.nil_append]
    have hml3 : (matL d (paidAt d B De Me)).length = d := by simp [matL]
    have hfz : ∀ σ, (intR (lst d (leftAt d B De Me))).map (fun r => r.map (frzS σ)) = intR (lst d (leftAt d B De Me)) := fun σ => by rw [← intR_rows]; exact frz_rowsD σ _
    (refine EndW.frzN 2 ?_; simp [frzN, frz1, frz_env, frz_obs, St.frz, St.frzS, frzS, fv, fzVec, fzMap, fzBox, frzObS, frz_entD, frz_rowsD, del, frz, frzOb, intR_all, hml3, hfz, lst_len])
    refine EndW.norm (EndW.here ?_)
    (refine EndOK.val (.inr rfl) ?_; simp [resD, oneOrTup, pureD, Try.results11, frz_obs, frz_env, norm_obs, norm_env, frz, frzOb, frzS, fv, fzVec, fzMap, fzBox, frzObS, frz_entD, frz_rowsD, normD, normU, norm1, normOb, intR_all, hml3, hfz, lst_len])
    try (simp [Function.comp_def])
  have hlf := levels_fun p d B hn60 hB hlt
  have hdd := hdg d hlt
  have hOkd := hOk d (by omega)
  have hDd := hD d hlt
  have hL0 := levelsOf_ok p B d
  have hll := levelsOf_len p B d
  have hlat : leftAt p B De Me d = (goL (levelsOf p B d) (meansAt p B De Me d) (De d)).2 := rfl
  obtain ⟨ls, hls⟩ : ∃ ls, ls = levelsOf p B d := ⟨_, rfl⟩
  rw [← hls] at hlf hL0 hll hlat
  repeat' (first
    | (refine H_cons ?_; simp [hne, hdd])
    | (refine H_nil ?_; simp [hne, hdd])
    | (refine V_sseq ?_; simp [hne, hdd])
    | (refine V_scond ?_; simp [hne, hdd])
    | (refine V_sblock ?_; simp [hne, hdd])
    | (refine V_skip ?_; simp only [RK_seq, RK_seq_ret, RK_seq_exit, RK_blk, RK_blk_ret, RK_blk_exit, RK_loop, RK_loop_ret, RK_loop_exit, RK_done])
    | (refine ⟨?_, by omega⟩)
    | (intro hc <;> (try (exfalso; omega)))
    | (refine CallP.fun_ (hlf) (by first | rfl | fail) (by first | assumption | (simp; done) | fail) (by first | (simp [hne, hdd]; done) | (simp [hne, hdd]; rfl) | fail) (by first | (simp; done) | fail) (fun d hd => ?_); subst hd; (try simp [hne, hdd]))
    | fail)
  refine V_loopO (α := { s : Nat × (Nat → Int) × Int // InvR p (meansAt p B De Me d) (De d) ls s.1 s.2.1 s.2.2 }) [0, 1, 9, 10, 12, 13, 15] (fun s => [(14, .u (.int .i64 s.1.2.2)), (16, .u (.int .i64 s.1.1))])
    (fun s => (1, .vec 3 1 (intR (lst p fun i => meansAt p B De Me d i - s.1.2.1 i))) :: (2, .vec 22 1 (idR 16 p p)) :: (3, .vec 3 1 (intR (lst d (leftAt p B De Me)))) :: fam 16 (rowsOb 3 p (fun i j => if j = d then s.1.2.1 i else paidTo p B De Me d i j) p)) (p + 16) (fun s => ls.length - s.1.1)
    ⟨(0, fun _ => 0, De d), ⟨by omega, fun i hi => ⟨Int.le_refl _, hOkd.lo i hi⟩, hDd.1, hDd.2, fun i => by simp, by simp⟩⟩ ?_ ?_
  · have eP : rowsOb 3 p (fun i j => if j = d then (0 : Int) else paidTo p B De Me d i j) p = rowsOb 3 p (paidTo p B De Me d) p := rowsOb_ext fun i _ j _ => by
      by_cases hj : j = d
      · subst hj; simp [paidTo]
      · simp [hj]
    exact (Wk.cut rfl (by simp [hn, St.lp]) (by simp [wkO, wkO_tail, endsIn_here, endsIn_cons, del_cons, del_fam, St.lp, getK_cons, getK, Ob.under, D.under, under_rowsD, under_entD, pure_intR, under_intR, rowsOb_len, rowsOb_pure, idR_under2, Nat.add_assoc, eP]) (by simp [wkU, St.lp, keepE, getK_cons, getK, D.under, pure_intR, under_intR, rowsOb_len, rowsOb_pure, idR_under2, Nat.add_assoc, eP]) (by simp [wkE, St.lp, keepE, getK_cons, getK, pure_intR, under_intR, rowsOb_len, rowsOb_pure, idR_under2, Nat.add_assoc, eP] <;> (try (intros; simp_all; done)) <;> (try (intros; omega)) <;> (try grind)))
  rintro ⟨⟨k, q, a⟩, hI⟩
  simp only at hI
  simp [St.lp, St.only, keepE, getK_cons, getK]
  obtain ⟨i5, i6, i7, i8, i10, i11⟩ := hI
  have hOkq : OkM p fun i => meansAt p B De Me d i - q i := ⟨fun i hi => by have := i6 i hi; omega, fun i hi => by have := i6 i hi; have := hOkd.hi i hi; omega⟩
  rcases hx : ls[k]? with _ | l
  · have hge : ls.length ≤ k := by simpa using hx
    rw [List.drop_of_length_le hge] at i10 i11
    simp only [goL] at i10 i11
    have eM2 : (lst p fun i => meansAt p B De Me d i - q i) = lst p (meansAt p B De Me (d + 1)) := lst_ext fun i hi => by simp only [meansAt]; rw [← hls, i10 i]; omega
    have hleft : leftAt p B De Me d = a := by rw [hlat, i11]
    have hap : intR (lst d (leftAt p B De Me)) ++ [[D.u (.int .i64 a)]] = intR (lst (d + 1) (leftAt p B De Me)) := by rw [lst_snoc, hleft]; simp [intR]
    have hlr : lenR 1 (intR (lst d (leftAt p B De Me))) := by simp [intR]
    have eP2 : rowsOb 3 p (fun i j => if j = d then q i else paidTo p B De Me d i j) p = rowsOb 3 p (paidTo p B De Me (d + 1)) p := rowsOb_ext fun i hi j _ => by
      by_cases hj : j = d
      · subst hj
        have : paidAt p B De Me i j = q i := by simp only [paidAt]; rw [← hls, i10 i]; omega
        simp [paidTo, this]
      · simp only [if_neg hj, paidTo]
        by_cases h : j < d
        · simp [h, show j < d + 1 by omega]
        · simp [h, show ¬ j < d + 1 by omega]
    repeat' (first
    | (refine H_cons ?_; simp [hx, hap, hlr, intR_len, lst_len, Nat.add_assoc])
    | (refine H_nil ?_; simp [hx, hap, hlr, intR_len, lst_len, Nat.add_assoc])
    | (refine ⟨by omega, ?_⟩)
    | (refine V_sseq ?_; simp [hx, hap, hlr, intR_len, lst_len, Nat.add_assoc])
    | (refine V_scond ?_; simp [hx, hap, hlr, intR_len, lst_len, Nat.add_assoc])
    | (refine V_sregion ?_; simp [hx, hap, hlr, intR_len, lst_len, Nat.add_assoc])
    | (refine V_exit ?_; simp [RK_seq, RK_seq_ret, RK_seq_exit, RK_blk, RK_blk_ret, RK_blk_exit, RK_loop, RK_loop_ret, RK_loop_exit, RK_done])
    | (intro hc <;> (try (exfalso; omega)))
    | fail)
    refine LoopW.next ⟨d + 1, by omega⟩ (by simp; omega) ?_
    exact (Wk.ren1 (3) (p + 17) rfl (by simp [hn]) (by simp [hn]) (by simp [pure_intR, under_intR, rowsOb_len, rowsOb_pure, idR_fix1, Nat.add_assoc, eM2, eP2]) (by simp [wkER, rho1, St.lp, keepE, getK_cons, getK, getK_del, getK_setOb, D.under, D.le, D.ren, pure_intR, under_intR, rowsOb_len, rowsOb_pure, idR_fix1, Nat.add_assoc, eM2, eP2] <;> (try (intros; simp_all; done)) <;> (try omega)) (by simp [wkR, wkR_tail1, endsIn_here, endsIn_cons, del_cons, del_fam, rho1, St.lp, getK_cons, getK, getK_del, getK_setOb, obR, leU, pureRow, pureRows, Ob.under, D.under, D.le, D.ren, pure_intR, under_intR, rowsOb_len, rowsOb_pure, idR_fix1, Nat.add_assoc, eM2, eP2] <;> (try (intros; simp_all; done)) <;> (try omega)))
  · have hlk : k < ls.length := (List.getElem?_eq_some_iff.1 hx).1
    have hlm := List.mem_of_getElem? hx
    have j1 := hL0.lt l hlm
    have j2 := hL0.nd l hlm
    have hpay := rpay_ret p p d (fun i => meansAt p B De Me d i - q i) (fun i j => if j = d then q i else paidTo p B De Me d i j) l a hn60 (Nat.le_refl _) hlt hOkq (fun i hi => by have := i6 i hi; have := hOkd.hi i hi; simp only [if_true, maxC] at *; omega) j1 j2 ⟨i7, i8⟩
    obtain ⟨q', hq'⟩ : ∃ q' : Nat → Int, q' = fun i => q i + payQ l (fun i => meansAt p B De Me d i - q i) a i := ⟨_, rfl⟩
    have hpr := fun i hi => payQ_range hOkq j1 j2 i7 (i := i) hi
    have hpl := payLeft_range hOkq j1 i7
    have eA : (lst p fun i => meansAt p B De Me d i - q i - payQ l (fun i => meansAt p B De Me d i - q i) a i) = lst p fun i => meansAt p B De Me d i - q' i := lst_ext fun i _ => by simp only [hq']; omega
    have eB : rowsOb 3 p (fun i j => if j = d then q i + payQ l (fun i => meansAt p B De Me d i - q i) a i else if j = d then q i else paidTo p B De Me d i j) p = rowsOb 3 p (fun i j => if j = d then q' i else paidTo p B De Me d i j) p := rowsOb_ext fun i _ j _ => by
      simp only [hq']
      by_cases hj : j = d <;> simp [hj]
    simp only [eA, if_true] at hpay
    simp only [eB] at hpay
    have hfun : (fun j => meansAt p B De Me d j - q j - payQ l (fun i => meansAt p B De Me d i - q i) a j) = fun j => meansAt p B De Me d j - q' j := funext fun j => by simp only [hq']; omega
    have hdr : ls.drop k = l :: ls.drop (k + 1) := by rw [List.drop_eq_getElem_cons hlk, (List.getElem?_eq_some_iff.1 hx).2]
    have hInv : InvR p (meansAt p B De Me d) (De d) ls (k + 1) q' (payLeft l (fun i => meansAt p B De Me d i - q i) a) := by
      refine ⟨by omega, fun i hi => ?_, hpl.1, by omega, fun i => ?_, ?_⟩
      · have h6 := i6 i hi
        have h7 := hpr i hi
        rw [hq']
        simp only
        omega
      · rw [i10 i, hdr]
        simp only [goL]
        rw [hfun, hq']
        simp only
        omega
      · rw [i11, hdr]
        simp only [goL]
        rw [hfun]
    generalize payLeft l (fun i => meansAt p B De Me d i - q i) a = a' at hpay hInv hpl
    repeat' (first
    | (refine H_cons ?_; simp [hx])
    | (refine H_nil ?_; simp [hx])
    | (refine V_sseq ?_; simp [hx])
    | (refine V_scond ?_; simp [hx])
    | (refine V_skip ?_; simp only [RK_seq, RK_seq_ret, RK_seq_exit, RK_blk, RK_blk_ret, RK_blk_exit, RK_loop, RK_loop_ret, RK_loop_exit, RK_done])
    | (refine ⟨?_, by omega⟩)
    | (intro hc <;> (try (exfalso; omega)))
    | fail)
    refine CallP.retS [(1, .vec 3 1 (intR (lst p fun i => meansAt p B De Me d i - q i))), (2, .vec 22 1 (idR 16 p p)), (3, .vec 3 1 (intR (lst d (leftAt p B De Me))))]
      [(3, .vec 3 1 (intR (lst d (leftAt p B De Me))))]
      [(1, .vec 3 1 (intR (lst p fun i => meansAt p B De Me d i - q i))), (2, .vec 22 1 (idR 16 p p))]
      16 (rowsOb 3 p (fun i j => if j = d then q i else paidTo p B De Me d i j) p) hpay rfl ?_ (by simp [rowsOb_len]) (by rfl) (by first | assumption | simp) (by first | rfl | simp) (by simp) ?_
    · intro i
      simp only [List.cons_append, List.nil_append, getK_cons, getK]
      (repeat' split) <;> first | rfl | omega
    rintro r o1 nx' hle ⟨rfl, rfl, rfl⟩
    simp
    repeat' (first
    | (refine H_cons ?_; simp)
    | (refine H_nil ?_; simp)
    | (refine ⟨by omega, ?_⟩)
    | (refine V_sregion ?_; simp)
    | fail)
    refine LoopW.next ⟨(k + 1, q', a'), hInv⟩ (by simp; omega) ?_
    exact (Wk.cut rfl (by simp [hn, St.lp]) (by simp [wkO, wkO_tail, endsIn_here, endsIn_cons, del_cons, del_fam, St.lp, getK_cons, getK, Ob.under, D.under, under_rowsD, under_entD, pure_intR, under_intR, rowsOb_len, rowsOb_pure, idR_under2, Nat.add_assoc]) (by simp [wkU, St.lp, keepE, getK_cons, getK, D.under, pure_intR, under_intR, rowsOb_len, rowsOb_pure, idR_under2, Nat.add_assoc]) (by simp [wkE, St.lp, keepE, getK_cons, getK, pure_intR, under_intR, rowsOb_len, rowsOb_pure, idR_under2, Nat.add_assoc] <;> (try (intros; simp_all; done)) <;> (try (intros; omega)) <;> (try grind)))
end Go.Proofs.Ytjmddlekokodfaa
