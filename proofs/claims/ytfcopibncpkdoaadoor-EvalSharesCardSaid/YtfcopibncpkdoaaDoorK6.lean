/- Texts joined by a program of mine: En Eo Ep Er Es Et Fi Uv VLA La Fp Fj. -/
import Derived.Test.YtfcopibncpkdoaaDoorK5
import Derived.LaidMore
import Derived.LaidLaws
import Derived.LaidHandle
import Derived.MakeChecks
import Derived.Stop.Joined
import Derived.OpenShut
import Derived.Test.YtfcopibncpkdoaaDoorTie
import Derived.Test.YtfcopibncpkdoaaDoorCards
set_option linter.all false
set_option maxRecDepth 100000
set_option maxHeartbeats 8000000
namespace Go.Proofs.YtfcopibncpkdoaaDoor
open Go Go.VL
attribute [local simp] HS hcons hstep evPure opd uOf putOK St.put St.at getK binD binI binS binB nilD aggD eqUs cmpK lookD lookR rangeD nextD entryD keyD valU keyU lookK mkV entD_nil lookK_entD updK_entD1 updK_entD2 updK_entD3 allUE allUE_entD makeMapD mapUpdD mapEff updK valM Key.kk shiftI arith unD convD pickD loadD cellsAt fieldAddrD fieldD indexAddrD indexD sliceD cutD lenD minmaxD nilCheckD buildD fillD cellsD isOne ones setAll mkAgg allU allocD boxD storeD St.add buildSliceD appendD rowsOf makeD setOb getK_setOb getK_del getK_cons stripL strip guardTmp entry chunks zcells valD argsV argsW argW argU1 argU0 argsU0 argsU1 calleeOf scalarD scalarU delAll effD St.effS RK_seq RK_seq_ret RK_seq_exit RK_blk RK_blk_ret RK_blk_exit RK_loop RK_loop_ret RK_loop_exit RK_done vs_seq vs_block vs_skip vs_label vs_exit vs_ret vs_cond vs_region vs_loop vs_draw vs_range vs_scope applyW mkD rdIds lentIds callOf calleeOf freeOp D.ids Op.operands Call.operands isEffOp makeIfD typeAssertD conc concs conc1 uOfV panicD IntKind.bits allU2 allU2_append List.take_of_length_le List.range_succ
attribute [local irreducible] V G H HD HD2 HD4 HD4h RetX RunK Eff CallP CallV EndOK Fun Ret FinOK LoopI LoopW EndW
theorem pre_ok {l : List Tok} {F : FuncId} {r : PR (Exp × Int)} {e : Exp × Int} {q i nx : Nat} {ds : List D} {obs : List (Nat × Ob)} (h : RetX Tryd.prog F ds obs nx (PPost l i nx pairD r)) (hr : r = .ok e q) :
    RetX Tryd.prog F ds obs nx fun r o n => r = .val (.tup [.u (.agg [.int .i64 e.1.op, .int .i64 e.1.n, .int .i64 e.1.unit, .str e.1.s, .sl (e.1.args.map Exp.row)]), .u (.int .i64 e.2)]) ∧ o = [(i, pOb l q)] ∧ n = nx := by
  subst hr
  rw [← Exp.row_eq]
  exact h
abbrev expOb (e : Exp) : Ob := .box [.u (.int .i64 e.op), .u (.int .i64 e.n), .u (.int .i64 e.unit), .u (.str e.s), .u (.sl (e.args.map Exp.row))]
theorem exp_step {l : List Tok} (hl : TokOK l) {f : Nat} (hE : ∀ g, g < f → ExpOK l g) (hP : PreOK l f) : ExpOK l (f + 1) := by
  intro p form i nx hi hp hf hm0 hm7
  have hne := ne_facts hi
  have hll := hl.len
  rw [expP]
  have ha := fun nx' (h : nx ≤ nx') => hP p form i nx' (by omega) hp (by omega) hm0 hm7
  have hop := operators_fun
  cases hr0 : prefixP l f p form with
  | stop pos e =>
    simp only [hr0] at ha
    (refine RetX.of_bodyW Tryd.func41 rfl (by simp) fun Γ hn hpan => ?_); simp only [entry, List.zipIdx_cons, List.zipIdx_nil, List.map_cons, List.map_nil, Nat.zero_add, Tryd.ntmps41]
    repeat' (first
    | (refine H_cons ?_; simp [hne, del, Nat.add_assoc])
    | (refine H_nil ?_; simp [hne, del, Nat.add_assoc])
    | (refine V_sseq ?_; simp [hne, del, Nat.add_assoc])
    | (refine CallP.pan1 (ha _ (by first | omega | (simp; done) | (simp; omega) | fail)) (by first | (simp [hne, del, Nat.add_assoc, getK_cons, getK, getK_append, getK_del]; done) | fail) (by rfl) (by first | assumption | (simp; done) | fail) (by rfl) (by simp) ?_; rintro ob' ⟨q', rfl⟩; refine ⟨_, Wk.refl _, ?_⟩)
    | fail)
    (refine hpan _ _ ⟨{ n := _, env := [], obs := [(i, pOb l q')], next := nx }, (Wk.cut rfl (by simp [hn]) (by simp [wkO, getK_cons, getK, getK_append, getK_del, Ob.under, D.under, under_rowsD, under_entD, hi, hne, getK_append, getK_del, getK_cons, getK]) (by simp [wkU, keepE, getK_cons, getK, D.under, hi, hne, getK_append, getK_del, getK_cons, getK]) (by simp [wkE, keepE, getK_cons, getK, hi, hne, getK_append, getK_del, getK_cons, getK])), by simp [hn], ?_⟩; try simp)
    exact PPost.at_stop (by simp [PR.bind, *])
  | ok v0 q0 =>
    have ha := fun nx' h => pre_ok (ha nx' h) hr0
    obtain ⟨g0a, g0b⟩ := (parse_le hl f).2.2.1 _ _ _ _ hr0 hp
    generalize hR : (PR.ok v0 q0).bind (fun e q => loopP l f form e.1 e.2 q) = R
    have hR' : R = loopP l f form v0.1 v0.2 q0 := hR.symm
    (refine RetX.of_bodyW Tryd.func41 rfl (by simp) fun Γ hn hpan => ?_); simp only [entry, List.zipIdx_cons, List.zipIdx_nil, List.map_cons, List.map_nil, Nat.zero_add, Tryd.ntmps41]
    repeat' (first
    | (refine H_cons ?_; simp [hne, del, Nat.add_assoc])
    | (refine H_nil ?_; simp [hne, del, Nat.add_assoc])
    | (refine V_sseq ?_; simp [hne, del, Nat.add_assoc])
    | (refine V_sblock ?_; simp [hne, del, Nat.add_assoc])
    | (refine CallP.ok1 (ha _ (by first | omega | (simp; done) | (simp; omega) | fail)) (by first | (simp [hne, del, Nat.add_assoc, getK_cons, getK, getK_append, getK_del]; done) | fail) (by rfl) (by first | assumption | (simp; done) | fail) (by rfl) (by simp) ?_; (try simp [hne, del, Nat.add_assoc]))
    | fail)
    refine V_loopO (α := { x : Exp × Int × Nat × Nat // x.2.2.1 < l.length ∧ 4 * (l.length - x.2.2.1) + 2 ≤ x.2.2.2 ∧ x.2.2.2 ≤ f ∧ R = loopP l x.2.2.2 form x.1 x.2.1 x.2.2.1 }) [0, 1, 2, 4, 5] (fun x => [(6, .u (.int .i64 x.1.2.1))])
      (fun x => [(nx + 2, expOb x.1.1), (nx + 1, .box [.u (.int .i64 0), .u (.int .i64 0), .u (.int .i64 0), .u (.str []), .u .nil]), (nx, .box [.ptr i 0]), (i, pOb l x.1.2.2.1)]) (nx + 3) (fun x => x.1.2.2.2) ⟨(v0.1, v0.2, q0, f), g0b, (by show 4 * (l.length - q0) + 2 ≤ f; omega), (by show f ≤ f; omega), hR'⟩ ?_ ?_
    · have hi3 : i < nx + 3 := by omega
      exact (Wk.cut rfl (by simp [hn, St.lp]) (by simp [wkO, St.lp, getK_cons, getK, Ob.under, D.under, under_rowsD, under_entD, hi, hi3, hne]) (by simp [wkU, St.lp, keepE, getK_cons, getK, D.under, hi, hi3, hne]) (by simp [wkE, St.lp, keepE, getK_cons, getK, hi, hi3, hne] <;> (try (intros; simp_all; done)) <;> (try (intros; omega)) <;> (try grind)))
    rintro ⟨⟨e, own, q, g⟩, h1, h2, h2b, h3⟩
    simp only at h1 h2 h2b h3
    simp [St.lp, St.only, keepE, getK_cons, getK]
    obtain ⟨g, rfl⟩ : ∃ g', g = g' + 1 := ⟨g - 1, by omega⟩
    rw [loopP] at h3
    have hix := indexO_ret l q h1 hl.len
    cases hx : oprAt l q with
    | none =>
      rw [(idxP_find oprs 0).1 hx] at hix
      rw [hx] at h3
      repeat' (first
    | (refine H_cons ?_; simp [hne, del, Nat.add_assoc])
    | (refine H_nil ?_; simp [hne, del, Nat.add_assoc])
    | (refine V_sseq ?_; simp [hne, del, Nat.add_assoc])
    | (refine V_scond ?_; simp [hne, del, Nat.add_assoc])
    | (refine V_sblock ?_; simp [hne, del, Nat.add_assoc])
    | (refine V_ret ?_; simp only [RunK])
    | (refine CallP.fun_ (hop) (by first | rfl | fail) (by first | assumption | (simp; done) | fail) (by first | (simp [hne, del, Nat.add_assoc]; done) | (simp [hne, del, Nat.add_assoc]; rfl) | fail) (by first | (simp; done) | fail) (fun d hd => ?_); subst hd; (try simp [hne, del, Nat.add_assoc]))
    | (refine CallP.fun_ (hix) (by first | rfl | fail) (by first | assumption | (simp; done) | fail) (by first | (simp [hne, del, Nat.add_assoc]; done) | (simp [hne, del, Nat.add_assoc]; rfl) | fail) (by first | (simp; done) | fail) (fun d hd => ?_); subst hd; (try simp [hne, del, Nat.add_assoc]))
    | fail)
      refine EndW.norm ?_
      simp [St.norm, normOb, normD, normU, norm1, hne, Nat.add_assoc]
      (refine EndW.here ?_; (first | (refine EndOK.fin (.inr rfl) ?_) | (refine EndOK.fin (.inl rfl) ?_)); simp [resD, oneOrTup, Tryd.results41, hne, hi]; refine FinOK.cut [(i, pOb l q)] (nx) (by simp [getK_cons, getK, getK_append, getK_del, Ob.under, D.under, under_rowsD, under_entD, hne, hi] <;> omega) (by simp [D.under]) (by simp [hn]) ?_; try simp)
      exact PPost.at_ok h3 (by simp [Exp.row_eq]) rfl
    | some x =>
      obtain ⟨k, hk1, hk2⟩ := (idxP_find oprs 0).2 x hx
      rw [hk2] at hix
      rw [hx] at h3
      simp only at h3
      have hqb := isB_lt hl (by have := List.find?_some (p := fun o : Opr => isB l q o.text) hx; exact this)
      have hk0 : ¬ ((k : Int) < 0) := by omega
      have hkl : k < 8 := (List.getElem?_eq_some_iff.1 hk1).1
      rw [show (0 : Int) + k = (k : Int) by omega] at hix
      have hfm : 0 ≤ x.form ∧ x.form ≤ 6 := by
        have := List.mem_of_getElem? hk1
        simp only [oprs, List.mem_cons, List.not_mem_nil, or_false] at this
        rcases this with rfl | rfl | rfl | rfl | rfl | rfl | rfl | rfl <;> decide
      obtain ⟨hf0, hf6⟩ := hfm
      generalize hL : oprs = L at hop hix hk1
      by_cases c1 : x.form < form
      · rw [if_pos (Or.inl c1)] at h3
        repeat' (first
    | (refine H_cons ?_; simp [hne, del, Nat.add_assoc, hk0, hk1, c1])
    | (refine H_nil ?_; simp [hne, del, Nat.add_assoc, hk0, hk1, c1])
    | (refine V_sseq ?_; simp [hne, del, Nat.add_assoc, hk0, hk1, c1])
    | (refine V_scond ?_; simp [hne, del, Nat.add_assoc, hk0, hk1, c1])
    | (refine V_sblock ?_; simp [hne, del, Nat.add_assoc, hk0, hk1, c1])
    | (refine V_ret ?_; simp only [RunK])
    | (refine V_skip ?_; simp only [RunK])
    | (refine CallP.fun_ (hop) (by first | rfl | fail) (by first | assumption | (simp; done) | fail) (by first | (simp [hne, del, Nat.add_assoc, hk0, hk1, c1]; done) | (simp [hne, del, Nat.add_assoc, hk0, hk1, c1]; rfl) | fail) (by first | (simp; done) | fail) (fun d hd => ?_); subst hd; (try simp [hne, del, Nat.add_assoc, hk0, hk1, c1]))
    | (refine CallP.fun_ (hix) (by first | rfl | fail) (by first | assumption | (simp; done) | fail) (by first | (simp [hne, del, Nat.add_assoc, hk0, hk1, c1]; done) | (simp [hne, del, Nat.add_assoc, hk0, hk1, c1]; rfl) | fail) (by first | (simp; done) | fail) (fun d hd => ?_); subst hd; (try simp [hne, del, Nat.add_assoc, hk0, hk1, c1]))
    | fail)
        refine EndW.norm ?_
        simp [St.norm, normOb, normD, normU, norm1, hne, Nat.add_assoc]
        (refine EndW.here ?_; (first | (refine EndOK.fin (.inr rfl) ?_) | (refine EndOK.fin (.inl rfl) ?_)); simp [resD, oneOrTup, Tryd.results41, hne, hi]; refine FinOK.cut [(i, pOb l q)] (nx) (by simp [getK_cons, getK, getK_append, getK_del, Ob.under, D.under, under_rowsD, under_entD, hne, hi] <;> omega) (by simp [D.under]) (by simp [hn]) ?_; try simp)
        exact PPost.at_ok h3 (by simp [Exp.row_eq]) rfl
      · by_cases c2 : own < x.form
        · rw [if_pos (Or.inr (Or.inl c2))] at h3
          repeat' (first
    | (refine H_cons ?_; simp [hne, del, Nat.add_assoc, hk0, hk1, c1, c2])
    | (refine H_nil ?_; simp [hne, del, Nat.add_assoc, hk0, hk1, c1, c2])
    | (refine V_sseq ?_; simp [hne, del, Nat.add_assoc, hk0, hk1, c1, c2])
    | (refine V_scond ?_; simp [hne, del, Nat.add_assoc, hk0, hk1, c1, c2])
    | (refine V_sblock ?_; simp [hne, del, Nat.add_assoc, hk0, hk1, c1, c2])
    | (refine V_ret ?_; simp only [RunK])
    | (refine V_skip ?_; simp only [RunK])
    | (refine CallP.fun_ (hop) (by first | rfl | fail) (by first | assumption | (simp; done) | fail) (by first | (simp [hne, del, Nat.add_assoc, hk0, hk1, c1, c2]; done) | (simp [hne, del, Nat.add_assoc, hk0, hk1, c1, c2]; rfl) | fail) (by first | (simp; done) | fail) (fun d hd => ?_); subst hd; (try simp [hne, del, Nat.add_assoc, hk0, hk1, c1, c2]))
    | (refine CallP.fun_ (hix) (by first | rfl | fail) (by first | assumption | (simp; done) | fail) (by first | (simp [hne, del, Nat.add_assoc, hk0, hk1, c1, c2]; done) | (simp [hne, del, Nat.add_assoc, hk0, hk1, c1, c2]; rfl) | fail) (by first | (simp; done) | fail) (fun d hd => ?_); subst hd; (try simp [hne, del, Nat.add_assoc, hk0, hk1, c1, c2]))
    | fail)
          refine EndW.norm ?_
          simp [St.norm, normOb, normD, normU, norm1, hne, Nat.add_assoc]
          (refine EndW.here ?_; (first | (refine EndOK.fin (.inr rfl) ?_) | (refine EndOK.fin (.inl rfl) ?_)); simp [resD, oneOrTup, Tryd.results41, hne, hi]; refine FinOK.cut [(i, pOb l q)] (nx) (by simp [getK_cons, getK, getK_append, getK_del, Ob.under, D.under, under_rowsD, under_entD, hne, hi] <;> omega) (by simp [D.under]) (by simp [hn]) ?_; try simp)
          exact PPost.at_ok h3 (by simp [Exp.row_eq]) rfl
        · by_cases c3 : own = 4 ∧ x.form = 4
          · rw [if_pos (Or.inr (Or.inr c3))] at h3
            obtain ⟨c4, c5⟩ := c3
            repeat' (first
    | (refine H_cons ?_; simp [hne, del, Nat.add_assoc, hk0, hk1, c1, c2, c4, c5])
    | (refine H_nil ?_; simp [hne, del, Nat.add_assoc, hk0, hk1, c1, c2, c4, c5])
    | (refine V_sseq ?_; simp [hne, del, Nat.add_assoc, hk0, hk1, c1, c2, c4, c5])
    | (refine V_scond ?_; simp [hne, del, Nat.add_assoc, hk0, hk1, c1, c2, c4, c5])
    | (refine V_sblock ?_; simp [hne, del, Nat.add_assoc, hk0, hk1, c1, c2, c4, c5])
    | (refine V_ret ?_; simp only [RunK])
    | (refine V_skip ?_; simp only [RunK])
    | (refine ⟨?_, by omega⟩)
    | (intro hc <;> (try (exfalso; omega)))
    | (refine CallP.fun_ (hop) (by first | rfl | fail) (by first | assumption | (simp; done) | fail) (by first | (simp [hne, del, Nat.add_assoc, hk0, hk1, c1, c2, c4, c5]; done) | (simp [hne, del, Nat.add_assoc, hk0, hk1, c1, c2, c4, c5]; rfl) | fail) (by first | (simp; done) | fail) (fun d hd => ?_); subst hd; (try simp [hne, del, Nat.add_assoc, hk0, hk1, c1, c2, c4, c5]))
    | (refine CallP.fun_ (hix) (by first | rfl | fail) (by first | assumption | (simp; done) | fail) (by first | (simp [hne, del, Nat.add_assoc, hk0, hk1, c1, c2, c4, c5]; done) | (simp [hne, del, Nat.add_assoc, hk0, hk1, c1, c2, c4, c5]; rfl) | fail) (by first | (simp; done) | fail) (fun d hd => ?_); subst hd; (try simp [hne, del, Nat.add_assoc, hk0, hk1, c1, c2, c4, c5]))
    | fail)
            refine EndW.norm ?_
            simp [St.norm, normOb, normD, normU, norm1, hne, Nat.add_assoc]
            (refine EndW.here ?_; (first | (refine EndOK.fin (.inr rfl) ?_) | (refine EndOK.fin (.inl rfl) ?_)); simp [resD, oneOrTup, Tryd.results41, hne, hi]; refine FinOK.cut [(i, pOb l q)] (nx) (by simp [getK_cons, getK, getK_append, getK_del, Ob.under, D.under, under_rowsD, under_entD, hne, hi] <;> omega) (by simp [D.under]) (by simp [hn]) ?_; try simp)
            exact PPost.at_ok h3 (by simp [Exp.row_eq]) rfl
          · rw [if_neg (by rintro (h | h | h) <;> contradiction)] at h3
            have hb := fun nx' (h : nx ≤ nx') => hE g (by omega) (q + 1) (x.form + 1) i nx' (by omega) hqb (by omega) (by omega) (by omega)
            cases hr1 : expP l g (q + 1) (x.form + 1) with
            | stop pos err =>
              simp only [hr1] at hb
              rw [hr1] at h3
              by_cases c4 : own = 4
              · have c5 : ¬ x.form = 4 := fun h => c3 ⟨c4, h⟩
                repeat' (first
    | (refine HD4_pan1 (fun nx' h' => hb nx' (by simp at h'; omega)) (by first | (simp [hne, del, Nat.add_assoc, hk0, hk1, c1, c2, c4, c5, getK_cons, getK, getK_append, getK_del, getK_setOb, applyW]; done) | fail) (by rfl) (by first | assumption | simp) (by rfl) (by simp) ?_ ?_; rintro env' ob' n' hn' ⟨q', rfl⟩; refine ⟨_, Wk.refl _, ?_⟩)
    | (refine HD4_skipS rfl (by simp) ?_; simp)
    | (refine H_cons ?_; simp [hne, del, Nat.add_assoc, hk0, hk1, c1, c2, c4, c5])
    | (refine HD4_val rfl ?_; simp [hne, del, Nat.add_assoc, hk0, hk1, c1, c2, c4, c5])
    | (refine H_nil ?_; simp [hne, del, Nat.add_assoc, hk0, hk1, c1, c2, c4, c5])
    | (refine ⟨by omega, ?_⟩)
    | (refine V_sseq ?_; simp [hne, del, Nat.add_assoc, hk0, hk1, c1, c2, c4, c5])
    | (refine V_scond ?_; simp [hne, del, Nat.add_assoc, hk0, hk1, c1, c2, c4, c5])
    | (refine HD4_nilS (hC _ (okP4_ren [i] nx (by simp <;> omega) (by simp <;> omega) (by apply Exists.intro; apply And.intro; (focus (repeat' (first | exact KF.nil | exact KL.nil | apply KF.cons | apply KL.cons 0 rfl | apply KL.cons 1 rfl | apply KL.cons 2 rfl | apply KL.cons 3 rfl | apply KL.cons 4 rfl | apply KL.cons 5 rfl | apply KL.cons 6 rfl | apply KL.cons 7 rfl | apply KL.cons 8 rfl | apply KL.cons 9 rfl))); kernel_rfl))) rfl; done)
    | (refine V_drawX rfl (by kernel_rfl) (by first | (simp [hn]; done) | (simp [hn]; omega) | fail) fun C k hC hk => ?_; simp [hne, del, Nat.add_assoc, hk0, hk1, c1, c2, c4, c5])
    | (refine V_sblock ?_; simp [hne, del, Nat.add_assoc, hk0, hk1, c1, c2, c4, c5])
    | (refine V_skip ?_; simp only [RunK])
    | (refine ⟨?_, by omega⟩)
    | (intro hc <;> (try (exfalso; omega)))
    | (refine CallP.fun_ (hop) (by first | rfl | fail) (by first | assumption | (simp; done) | fail) (by first | (simp [hne, del, Nat.add_assoc, hk0, hk1, c1, c2, c4, c5]; done) | (simp [hne, del, Nat.add_assoc, hk0, hk1, c1, c2, c4, c5]; rfl) | fail) (by first | (simp; done) | fail) (fun d hd => ?_); subst hd; (try simp [hne, del, Nat.add_assoc, hk0, hk1, c1, c2, c4, c5]))
    | (refine CallP.fun_ (hix) (by first | rfl | fail) (by first | assumption | (simp; done) | fail) (by first | (simp [hne, del, Nat.add_assoc, hk0, hk1, c1, c2, c4, c5]; done) | (simp [hne, del, Nat.add_assoc, hk0, hk1, c1, c2, c4, c5]; rfl) | fail) (by first | (simp; done) | fail) (fun d hd => ?_); subst hd; (try simp [hne, del, Nat.add_assoc, hk0, hk1, c1, c2, c4, c5]))
    | fail)
                (refine hpan _ _ ⟨{ n := _, env := [], obs := [(i, pOb l q')], next := nx }, (Wk.cut rfl (by simp [hn]) (by simp [wkO, getK_cons, getK, getK_append, getK_del, Ob.under, D.under, under_rowsD, under_entD, hi, hne, getK_append, getK_del, getK_cons, getK]) (by simp [wkU, keepE, getK_cons, getK, D.under, hi, hne, getK_append, getK_del, getK_cons, getK]) (by simp [wkE, keepE, getK_cons, getK, hi, hne, getK_append, getK_del, getK_cons, getK])), by simp [hn], ?_⟩; try simp)
                exact PPost.at_stop h3
              · repeat' (first
    | (refine HD4_pan1 (fun nx' h' => hb nx' (by simp at h'; omega)) (by first | (simp [hne, del, Nat.add_assoc, hk0, hk1, c1, c2, c4, getK_cons, getK, getK_append, getK_del, getK_setOb, applyW]; done) | fail) (by rfl) (by first | assumption | simp) (by rfl) (by simp) ?_ ?_; rintro env' ob' n' hn' ⟨q', rfl⟩; refine ⟨_, Wk.refl _, ?_⟩)
    | (refine HD4_skipS rfl (by simp) ?_; simp)
    | (refine H_cons ?_; simp [hne, del, Nat.add_assoc, hk0, hk1, c1, c2, c4])
    | (refine HD4_val rfl ?_; simp [hne, del, Nat.add_assoc, hk0, hk1, c1, c2, c4])
    | (refine H_nil ?_; simp [hne, del, Nat.add_assoc, hk0, hk1, c1, c2, c4])
    | (refine ⟨by omega, ?_⟩)
    | (refine V_sseq ?_; simp [hne, del, Nat.add_assoc, hk0, hk1, c1, c2, c4])
    | (refine V_scond ?_; simp [hne, del, Nat.add_assoc, hk0, hk1, c1, c2, c4])
    | (refine HD4_nilS (hC _ (okP4_ren [i] nx (by simp <;> omega) (by simp <;> omega) (by apply Exists.intro; apply And.intro; (focus (repeat' (first | exact KF.nil | exact KL.nil | apply KF.cons | apply KL.cons 0 rfl | apply KL.cons 1 rfl | apply KL.cons 2 rfl | apply KL.cons 3 rfl | apply KL.cons 4 rfl | apply KL.cons 5 rfl | apply KL.cons 6 rfl | apply KL.cons 7 rfl | apply KL.cons 8 rfl | apply KL.cons 9 rfl))); kernel_rfl))) rfl; done)
    | (refine V_drawX rfl (by kernel_rfl) (by first | (simp [hn]; done) | (simp [hn]; omega) | fail) fun C k hC hk => ?_; simp [hne, del, Nat.add_assoc, hk0, hk1, c1, c2, c4])
    | (refine V_sblock ?_; simp [hne, del, Nat.add_assoc, hk0, hk1, c1, c2, c4])
    | (refine V_skip ?_; simp only [RunK])
    | (refine CallP.fun_ (hop) (by first | rfl | fail) (by first | assumption | (simp; done) | fail) (by first | (simp [hne, del, Nat.add_assoc, hk0, hk1, c1, c2, c4]; done) | (simp [hne, del, Nat.add_assoc, hk0, hk1, c1, c2, c4]; rfl) | fail) (by first | (simp; done) | fail) (fun d hd => ?_); subst hd; (try simp [hne, del, Nat.add_assoc, hk0, hk1, c1, c2, c4]))
    | (refine CallP.fun_ (hix) (by first | rfl | fail) (by first | assumption | (simp; done) | fail) (by first | (simp [hne, del, Nat.add_assoc, hk0, hk1, c1, c2, c4]; done) | (simp [hne, del, Nat.add_assoc, hk0, hk1, c1, c2, c4]; rfl) | fail) (by first | (simp; done) | fail) (fun d hd => ?_); subst hd; (try simp [hne, del, Nat.add_assoc, hk0, hk1, c1, c2, c4]))
    | fail)
                (refine hpan _ _ ⟨{ n := _, env := [], obs := [(i, pOb l q')], next := nx }, (Wk.cut rfl (by simp [hn]) (by simp [wkO, getK_cons, getK, getK_append, getK_del, Ob.under, D.under, under_rowsD, under_entD, hi, hne, getK_append, getK_del, getK_cons, getK]) (by simp [wkU, keepE, getK_cons, getK, D.under, hi, hne, getK_append, getK_del, getK_cons, getK]) (by simp [wkE, keepE, getK_cons, getK, hi, hne, getK_append, getK_del, getK_cons, getK])), by simp [hn], ?_⟩; try simp)
                exact PPost.at_stop h3
            | ok e2 q2 =>
              have hb := fun nx' h => exp_ok (hb nx' h) hr1
              obtain ⟨g1a, g1b⟩ := (parse_le hl g).1 _ _ _ _ hr1 hqb
              rw [hr1] at h3
              by_cases c4 : own = 4
              · have c5 : ¬ x.form = 4 := fun h => c3 ⟨c4, h⟩
                repeat' (first
    | (refine HD4_ok1 (fun nx' h' => hb nx' (by simp at h'; omega)) (by first | (simp [hne, del, Nat.add_assoc, hk0, hk1, c1, c2, c4, c5, getK_cons, getK, getK_append, getK_del, getK_setOb, applyW]; done) | fail) (by rfl) (by first | assumption | simp) (by rfl) (by simp [D.under, Ob.under]) (by simp) ?_; (try simp [hne, del, Nat.add_assoc, hk0, hk1, c1, c2, c4, c5]))
    | (refine H_cons ?_; simp [hne, del, Nat.add_assoc, hk0, hk1, c1, c2, c4, c5])
    | (refine HD4_val rfl ?_; simp [hne, del, Nat.add_assoc, hk0, hk1, c1, c2, c4, c5])
    | (refine HD4_chg rfl ?_; simp [hne, del, Nat.add_assoc, hk0, hk1, c1, c2, c4, c5])
    | (refine H_nil ?_; simp [hne, del, Nat.add_assoc, hk0, hk1, c1, c2, c4, c5])
    | (refine ⟨by omega, ?_⟩)
    | (refine V_sseq ?_; simp [hne, del, Nat.add_assoc, hk0, hk1, c1, c2, c4, c5])
    | (refine V_scond ?_; simp [hne, del, Nat.add_assoc, hk0, hk1, c1, c2, c4, c5])
    | (refine HD4_nil (hC _ (okP4_ren [i] nx (by simp <;> omega) (by simp <;> omega) (by apply Exists.intro; apply And.intro; (focus (repeat' (first | exact KF.nil | exact KL.nil | apply KF.cons | apply KL.cons 0 rfl | apply KL.cons 1 rfl | apply KL.cons 2 rfl | apply KL.cons 3 rfl | apply KL.cons 4 rfl | apply KL.cons 5 rfl | apply KL.cons 6 rfl | apply KL.cons 7 rfl | apply KL.cons 8 rfl | apply KL.cons 9 rfl))); kernel_rfl))) (hk _ ?_); clear hC hk C k; simp only [RunK])
    | (refine V_drawX rfl (by kernel_rfl) (by first | (simp [hn]; done) | (simp [hn]; omega) | fail) fun C k hC hk => ?_; simp [hne, del, Nat.add_assoc, hk0, hk1, c1, c2, c4, c5])
    | (refine V_sblock ?_; simp [hne, del, Nat.add_assoc, hk0, hk1, c1, c2, c4, c5])
    | (refine V_sregion ?_; simp [hne, del, Nat.add_assoc, hk0, hk1, c1, c2, c4, c5])
    | (refine V_skip ?_; simp only [RunK])
    | (refine ⟨?_, by omega⟩)
    | (intro hc <;> (try (exfalso; omega)))
    | (refine CallP.fun_ (hop) (by first | rfl | fail) (by first | assumption | (simp; done) | fail) (by first | (simp [hne, del, Nat.add_assoc, hk0, hk1, c1, c2, c4, c5]; done) | (simp [hne, del, Nat.add_assoc, hk0, hk1, c1, c2, c4, c5]; rfl) | fail) (by first | (simp; done) | fail) (fun d hd => ?_); subst hd; (try simp [hne, del, Nat.add_assoc, hk0, hk1, c1, c2, c4, c5]))
    | (refine CallP.fun_ (hix) (by first | rfl | fail) (by first | assumption | (simp; done) | fail) (by first | (simp [hne, del, Nat.add_assoc, hk0, hk1, c1, c2, c4, c5]; done) | (simp [hne, del, Nat.add_assoc, hk0, hk1, c1, c2, c4, c5]; rfl) | fail) (by first | (simp; done) | fail) (fun d hd => ?_); subst hd; (try simp [hne, del, Nat.add_assoc, hk0, hk1, c1, c2, c4, c5]))
    | fail)
                have hi3 : i < nx + 3 := by omega
                refine LoopW.next ⟨(.mk x.op 0 0 [] [e, e2], x.form, q2, g), g1b, (by show 4 * (l.length - q2) + 2 ≤ g; omega), (by show g ≤ f; omega), h3⟩ (by show g < g + 1; omega) ?_
                refine Wk.trans (Wk.frzN 1 _) ?_
                simp [hne, Nat.add_assoc, frzN, frz1, frz_env, frz_obs, St.frz, St.frzS, frzS, fv, fzVec, fzMap, fzBox, frzObS, frz_entD, frz_rowsD, del, frz, frzOb]
                exact (Wk.cut rfl (by simp [hn, St.lp]) (by simp [wkO, St.lp, getK_cons, getK, Ob.under, D.under, under_rowsD, under_entD, hi, hi3, hne, Exp.row_eq, Exp.op, Exp.n, Exp.unit, Exp.s, Exp.args]) (by simp [wkU, St.lp, keepE, getK_cons, getK, D.under, hi, hi3, hne, Exp.row_eq, Exp.op, Exp.n, Exp.unit, Exp.s, Exp.args]) (by simp [wkE, St.lp, keepE, getK_cons, getK, hi, hi3, hne, Exp.row_eq, Exp.op, Exp.n, Exp.unit, Exp.s, Exp.args] <;> (try (intros; simp_all; done)) <;> (try (intros; omega)) <;> (try grind)))
              · repeat' (first
    | (refine HD4_ok1 (fun nx' h' => hb nx' (by simp at h'; omega)) (by first | (simp [hne, del, Nat.add_assoc, hk0, hk1, c1, c2, c4, getK_cons, getK, getK_append, getK_del, getK_setOb, applyW]; done) | fail) (by rfl) (by first | assumption | simp) (by rfl) (by simp [D.under, Ob.under]) (by simp) ?_; (try simp [hne, del, Nat.add_assoc, hk0, hk1, c1, c2, c4]))
    | (refine H_cons ?_; simp [hne, del, Nat.add_assoc, hk0, hk1, c1, c2, c4])
    | (refine HD4_val rfl ?_; simp [hne, del, Nat.add_assoc, hk0, hk1, c1, c2, c4])
    | (refine HD4_chg rfl ?_; simp [hne, del, Nat.add_assoc, hk0, hk1, c1, c2, c4])
    | (refine H_nil ?_; simp [hne, del, Nat.add_assoc, hk0, hk1, c1, c2, c4])
    | (refine ⟨by omega, ?_⟩)
    | (refine V_sseq ?_; simp [hne, del, Nat.add_assoc, hk0, hk1, c1, c2, c4])
    | (refine V_scond ?_; simp [hne, del, Nat.add_assoc, hk0, hk1, c1, c2, c4])
    | (refine HD4_nil (hC _ (okP4_ren [i] nx (by simp <;> omega) (by simp <;> omega) (by apply Exists.intro; apply And.intro; (focus (repeat' (first | exact KF.nil | exact KL.nil | apply KF.cons | apply KL.cons 0 rfl | apply KL.cons 1 rfl | apply KL.cons 2 rfl | apply KL.cons 3 rfl | apply KL.cons 4 rfl | apply KL.cons 5 rfl | apply KL.cons 6 rfl | apply KL.cons 7 rfl | apply KL.cons 8 rfl | apply KL.cons 9 rfl))); kernel_rfl))) (hk _ ?_); clear hC hk C k; simp only [RunK])
    | (refine V_drawX rfl (by kernel_rfl) (by first | (simp [hn]; done) | (simp [hn]; omega) | fail) fun C k hC hk => ?_; simp [hne, del, Nat.add_assoc, hk0, hk1, c1, c2, c4])
    | (refine V_sblock ?_; simp [hne, del, Nat.add_assoc, hk0, hk1, c1, c2, c4])
    | (refine V_sregion ?_; simp [hne, del, Nat.add_assoc, hk0, hk1, c1, c2, c4])
    | (refine V_skip ?_; simp only [RunK])
    | (refine CallP.fun_ (hop) (by first | rfl | fail) (by first | assumption | (simp; done) | fail) (by first | (simp [hne, del, Nat.add_assoc, hk0, hk1, c1, c2, c4]; done) | (simp [hne, del, Nat.add_assoc, hk0, hk1, c1, c2, c4]; rfl) | fail) (by first | (simp; done) | fail) (fun d hd => ?_); subst hd; (try simp [hne, del, Nat.add_assoc, hk0, hk1, c1, c2, c4]))
    | (refine CallP.fun_ (hix) (by first | rfl | fail) (by first | assumption | (simp; done) | fail) (by first | (simp [hne, del, Nat.add_assoc, hk0, hk1, c1, c2, c4]; done) | (simp [hne, del, Nat.add_assoc, hk0, hk1, c1, c2, c4]; rfl) | fail) (by first | (simp; done) | fail) (fun d hd => ?_); subst hd; (try simp [hne, del, Nat.add_assoc, hk0, hk1, c1, c2, c4]))
    | fail)
                have hi3 : i < nx + 3 := by omega
                refine LoopW.next ⟨(.mk x.op 0 0 [] [e, e2], x.form, q2, g), g1b, (by show 4 * (l.length - q2) + 2 ≤ g; omega), (by show g ≤ f; omega), h3⟩ (by show g < g + 1; omega) ?_
                refine Wk.trans (Wk.frzN 1 _) ?_
                simp [hne, Nat.add_assoc, frzN, frz1, frz_env, frz_obs, St.frz, St.frzS, frzS, fv, fzVec, fzMap, fzBox, frzObS, frz_entD, frz_rowsD, del, frz, frzOb]
                exact (Wk.cut rfl (by simp [hn, St.lp]) (by simp [wkO, St.lp, getK_cons, getK, Ob.under, D.under, under_rowsD, under_entD, hi, hi3, hne, Exp.row_eq, Exp.op, Exp.n, Exp.unit, Exp.s, Exp.args]) (by simp [wkU, St.lp, keepE, getK_cons, getK, D.under, hi, hi3, hne, Exp.row_eq, Exp.op, Exp.n, Exp.unit, Exp.s, Exp.args]) (by simp [wkE, St.lp, keepE, getK_cons, getK, hi, hi3, hne, Exp.row_eq, Exp.op, Exp.n, Exp.unit, Exp.s, Exp.args] <;> (try (intros; simp_all; done)) <;> (try (intros; omega)) <;> (try grind)))
end Go.Proofs.YtfcopibncpkdoaaDoor
namespace Go.VL
open Go
/-- A slice within a struct that came in has a length that an int holds. -/
theorem V_lenB {P : Program} {Γ : Ctx} {c : Code} {s : St} {Q : Exit → St → Prop} {x j : Nat} {cells : List U} {rows : List (List U)} (hx : getK s.env x = some (.u (.agg cells))) (hj : cells[j]? = some (.sl rows)) (h : rows.length ≤ 9223372036854775807 → V P Γ c s Q) : V P Γ c s Q :=
  V_know (fun K a w hs => by
    have hr := (hs.getK hx).2
    obtain ⟨vs, hl, _, hr⟩ := rep_uagg hr
    have hr := hr j _ hj
    generalize vs.getD j undef = v at hr
    cases hr with
    | slE => simp
    | sl _ b o sz c f hc hcx => unfold maxLen at hcx; omega) h
end Go.VL
namespace Go.Proofs.YtfcopibncpkdoaaDoor
open Go Go.VL
attribute [local simp] hcons hstep evPure opd uOf putOK St.put St.at getK binD binI binS binB nilD aggD eqUs cmpK lookD lookR rangeD nextD entryD keyD valU keyU lookK mkV entD_nil lookK_entD updK_entD1 updK_entD2 updK_entD3 allUE allUE_entD makeMapD mapUpdD mapEff updK valM Key.kk shiftI arith unD convD pickD loadD cellsAt fieldAddrD fieldD indexAddrD indexD sliceD cutD lenD minmaxD nilCheckD buildD fillD cellsD isOne ones setAll mkAgg allU allocD boxD storeD St.add buildSliceD appendD rowsOf makeD setOb getK_setOb getK_del getK_cons stripL strip guardTmp entry chunks zcells valD argsV argsW argW argU1 argU0 argsU0 argsU1 calleeOf scalarD scalarU delAll effD St.effS RK_seq RK_seq_ret RK_seq_exit RK_blk RK_blk_ret RK_blk_exit RK_loop RK_loop_ret RK_loop_exit RK_done vs_seq vs_block vs_skip vs_label vs_exit vs_ret vs_cond vs_region vs_loop vs_draw vs_range vs_scope applyW mkD rdIds lentIds callOf calleeOf freeOp D.ids Op.operands Call.operands isEffOp makeIfD typeAssertD conc concs conc1 uOfV panicD IntKind.bits allU2 allU2_append List.take_of_length_le List.range_succ
attribute [local irreducible] V G H HD HD2 RunK Eff CallP CallV EndOK Fun Ret FinOK LoopI LoopW EndW
theorem parse_all {l : List Tok} (hl : TokOK l) : ∀ f, ExpOK l f ∧ PreOK l f ∧ PrimOK l f := by
  intro f
  induction f using Nat.strongRecOn with
  | _ f ih =>
    cases f with
    | zero => exact ⟨fun p form i nx _ _ h => by omega, fun p form i nx _ _ h => by omega, fun p i nx _ _ h => by omega⟩
    | succ f =>
      obtain ⟨h1, h2, h3⟩ := ih f (by omega)
      exact ⟨exp_step hl (fun g hg => (ih g (by omega)).1) h2, prefix_step hl h1 h3, primary_step hl h1⟩
def Exp.lev : Exp → Int
  | .mk _ _ _ _ args => (args.map fun e => e.lev).foldl max 0 + 1
theorem Exp.lev_eq (e : Exp) : e.lev = (e.args.map Exp.lev).foldl max 0 + 1 := by
  cases e with
  | mk op n u s args => rw [Exp.lev]; rfl
theorem foldl_max_mem : ∀ (l : List Int) (a : Int), a ≤ l.foldl max a ∧ ∀ x ∈ l, x ≤ l.foldl max a
  | [], a => ⟨by simp, fun x h => by simp at h⟩
  | b :: l, a => by
    obtain ⟨h1, h2⟩ := foldl_max_mem l (max a b)
    refine ⟨by simp only [List.foldl_cons]; omega, fun x hx => ?_⟩
    rcases List.mem_cons.1 hx with rfl | hx
    · simp only [List.foldl_cons]; omega
    · exact h2 x hx
theorem Exp.lev_pos (e : Exp) : 1 ≤ e.lev := by
  rw [Exp.lev_eq]
  have := (foldl_max_mem (e.args.map Exp.lev) 0).1
  omega
theorem Exp.sizeOf_args {e x : Exp} (h : x ∈ e.args) : SizeOf.sizeOf x < SizeOf.sizeOf e := by
  cases e with
  | mk op n u s args =>
    have := List.sizeOf_lt_of_mem h
    simp only [Exp.args] at this
    simp only [Exp.mk.sizeOf_spec]
    omega
theorem levels_all : ∀ (n : Nat) (e : Exp), SizeOf.sizeOf e ≤ n → e.lev ≤ 1000000000 → Fun Tryd.prog 44 [.u (.agg e.row)] (· = .u (.int .i64 e.lev)) := by
  intro n
  induction n with
  | zero =>
    intro e h
    cases e with
    | mk op n u s args => simp only [Exp.mk.sizeOf_spec] at h; omega
  | succ n ih =>
    intro e hs he
    have hx : ∀ x ∈ e.args, Fun Tryd.prog 44 [.u (.agg [.int .i64 x.op, .int .i64 x.n, .int .i64 x.unit, .str x.s, .sl (x.args.map Exp.row)])] (· = .u (.int .i64 x.lev)) := fun x hx => by
      rw [← Exp.row_eq]
      refine ih x (by have := Exp.sizeOf_args hx; omega) ?_
      have := (foldl_max_mem (e.args.map Exp.lev) 0).2 x.lev (List.mem_map.2 ⟨x, hx, rfl⟩)
      rw [Exp.lev_eq] at he
      omega
    have hlb : ∀ k, ((e.args.map Exp.lev).take k).foldl max 0 ≤ 1000000000 := fun k => by
      rw [← List.map_take]
      rw [Exp.lev_eq] at he
      have h2 : (e.args.map Exp.lev).foldl max 0 = (e.args.drop k |>.map Exp.lev).foldl max ((e.args.take k |>.map Exp.lev).foldl max 0) := by
        rw [← List.foldl_append, ← List.map_append, List.take_append_drop]
      have := (foldl_max_mem (e.args.drop k |>.map Exp.lev) ((e.args.take k |>.map Exp.lev).foldl max 0)).1
      omega
    rw [Exp.row_eq, Exp.lev_eq]
    generalize hA : e.args = A at *
    rw [Exp.lev_eq, hA] at he
    (refine Fun.of_body Tryd.func44 rfl (by simp) fun Γ hn => ?_); simp only [entry, List.zipIdx_cons, List.zipIdx_nil, List.map_cons, List.map_nil, Nat.zero_add, Tryd.ntmps44]
    refine V_lenB (x := 0) (j := 4) rfl rfl fun hl => ?_
    simp at hl
    repeat' (first
    | (refine H_cons ?_; simp)
    | (refine H_nil ?_; simp)
    | (refine V_sseq ?_; simp)
    | (refine V_sblock ?_; simp)
    | fail)
    refine V_loopF (α := { k : Nat // k ≤ A.length }) [0, 1, 2, 7, 8] (fun k => [(9, .u (.int .i64 k.1)), (3, .u (.int .i64 (((A.map Exp.lev).take k.1).foldl max 0)))]) (fun k => A.length - k.1) ⟨0, by omega⟩ ?_ ?_
    · exact (Wk.env rfl rfl rfl (by simp [wkE, St.lp, keepE, getK_cons, getK] <;> (try (intros; simp_all; done)) <;> (try (intros; omega)) <;> (try grind)))
    rintro ⟨k, hk⟩
    simp [St.lp, St.only, keepE, getK_cons, getK]
    rcases hy : A[k]? with _ | y
    · have hge : A.length ≤ k := by simpa using hy
      have hb := hlb k
      rw [List.take_of_length_le (by simpa using hge : (A.map Exp.lev).length ≤ k)] at hb ⊢
      have hb0 := (foldl_max_mem (A.map Exp.lev) 0).1
      generalize (A.map Exp.lev).foldl max 0 = M at *
      repeat' (first
    | (refine H_cons ?_; simp [hy])
    | (refine H_nil ?_; simp [hy])
    | (refine ⟨by omega, ?_⟩)
    | (refine V_sseq ?_; simp [hy])
    | (refine V_ret ?_; simp only [RunK])
    | (refine V_exit ?_; simp [RunK])
    | (intro hc <;> (try (exfalso; omega)))
    | fail)
      (refine EndOK.val (.inr rfl) ?_; simp [resD, oneOrTup, pureD, Tryd.results44])
    · have hlt : k < A.length := (List.getElem?_eq_some_iff.1 hy).1
      have hfn := hx y (List.mem_of_getElem? hy)
      have ht : ((A.map Exp.lev).take (k + 1)).foldl max 0 = max (((A.map Exp.lev).take k).foldl max 0) y.lev := by
        rw [List.take_add_one, List.getElem?_map, hy]
        simp
      have hb := hlb (k + 1)
      rw [ht] at hb
      have hb0 := (foldl_max_mem ((A.map Exp.lev).take k) 0).1
      generalize hM : ((A.map Exp.lev).take k).foldl max 0 = M at *
      have hyp := y.lev_pos
      repeat' (first
    | (refine H_cons ?_; simp [hy, Exp.row_eq])
    | (refine H_nil ?_; simp [hy, Exp.row_eq])
    | (refine ⟨by omega, ?_⟩)
    | (refine V_sseq ?_; simp [hy, Exp.row_eq])
    | (refine V_sregion ?_; simp [hy, Exp.row_eq])
    | (refine V_skip ?_; simp only [RunK])
    | (refine ⟨?_, by omega⟩)
    | (intro hc <;> (try (exfalso; omega)))
    | (refine CallP.fun_ (hfn) (by first | rfl | fail) (by first | assumption | (simp; done) | fail) (by first | (simp [hy, Exp.row_eq]; done) | (simp [hy, Exp.row_eq]; rfl) | fail) (by first | (simp; done) | fail) (fun d hd => ?_); subst hd; (try simp [hy, Exp.row_eq]))
    | fail)
      refine LoopW.next ⟨k + 1, hlt⟩ (by show A.length - (k + 1) < A.length - k; omega) ?_
      exact (Wk.cut rfl (by simp [hn, St.lp]) (by simp [wkO, St.lp, getK_cons, getK, Ob.under, D.under, under_rowsD, under_entD, ht]) (by simp [wkU, St.lp, keepE, getK_cons, getK, D.under, ht]) (by simp [wkE, St.lp, keepE, getK_cons, getK, ht] <;> (try (intros; simp_all; done)) <;> (try (intros; omega)) <;> (try grind)))
end Go.Proofs.YtfcopibncpkdoaaDoor
namespace Go.Proofs.YtfcopibncpkdoaaDoor
open Go Go.VL
attribute [local simp] HS hcons hstep evPure opd uOf putOK St.put St.at getK binD binI binS binB nilD aggD eqUs cmpK lookD lookR rangeD nextD entryD keyD valU keyU lookK mkV entD_nil lookK_entD updK_entD1 updK_entD2 updK_entD3 allUE allUE_entD makeMapD mapUpdD mapEff updK valM Key.kk shiftI arith unD convD pickD loadD cellsAt fieldAddrD fieldD indexAddrD indexD sliceD cutD lenD minmaxD nilCheckD buildD fillD cellsD isOne ones setAll mkAgg allU allocD boxD storeD St.add buildSliceD appendD rowsOf makeD setOb getK_setOb getK_del getK_cons stripL strip guardTmp entry chunks zcells valD argsV argsW argW argU1 argU0 argsU0 argsU1 calleeOf scalarD scalarU delAll effD St.effS RK_seq RK_seq_ret RK_seq_exit RK_blk RK_blk_ret RK_blk_exit RK_loop RK_loop_ret RK_loop_exit RK_done vs_seq vs_block vs_skip vs_label vs_exit vs_ret vs_cond vs_region vs_loop vs_draw vs_range vs_scope applyW mkD rdIds lentIds callOf calleeOf freeOp D.ids Op.operands Call.operands isEffOp makeIfD typeAssertD conc concs conc1 uOfV panicD IntKind.bits allU2 allU2_append List.take_of_length_le List.range_succ
attribute [local irreducible] V G H HD HD2 HD4 HD4h RetX RunK Eff CallP CallV EndOK Fun Ret FinOK LoopI LoopW EndW
theorem open_ok (s : List UInt8) (l : List Tok) (nx : Nat) (h : lexL s = .ok l) :
    RetX Tryd.prog 38 [.u (.str s)] [] nx (fun r o n => r = .val (.tup [.ptr nx 0, .u (.int .i64 0), .u (.int .i64 0)]) ∧ o = [(nx, pOb l 0)] ∧ n = nx + 1) := by
  have h1 := lex_fun s
  rw [h] at h1
  simp only [lexOut] at h1
  (refine RetX.of_bodyW Tryd.func38 rfl (by simp) fun Γ hn hpan => ?_); simp only [entry, List.zipIdx_cons, List.zipIdx_nil, List.map_cons, List.map_nil, Nat.zero_add, Tryd.ntmps38]
  repeat' (first
    | (refine H_cons ?_; simp)
    | (refine H_nil ?_; simp)
    | (refine V_sseq ?_; simp)
    | (refine V_ret ?_; simp only [RunK])
    | (refine CallP.fun_ (h1) (by first | rfl | fail) (by first | assumption | (simp; done) | fail) (by first | (simp; done) | (simp; rfl) | fail) (by first | (simp; done) | fail) (fun d hd => ?_); subst hd; (try simp))
    | fail)
  (refine EndW.here ?_; (first | (refine EndOK.fin (.inr rfl) ?_) | (refine EndOK.fin (.inl rfl) ?_)); simp [resD, oneOrTup, Tryd.results38]; refine FinOK.here (by simp) ?_; try simp)
theorem open_err (s : List UInt8) (p : Nat) (e : Int) (nx : Nat) (h : lexL s = .error (p, e)) :
    RetX Tryd.prog 38 [.u (.str s)] [] nx (fun r o n => r = .val (.tup [.ptr nx 0, .u (.int .i64 p), .u (.int .i64 e)]) ∧ o = [(nx, pOb [] 0)] ∧ n = nx + 1) := by
  have h1 := lex_fun s
  rw [h] at h1
  simp only [lexOut] at h1
  (refine RetX.of_bodyW Tryd.func38 rfl (by simp) fun Γ hn hpan => ?_); simp only [entry, List.zipIdx_cons, List.zipIdx_nil, List.map_cons, List.map_nil, Nat.zero_add, Tryd.ntmps38]
  repeat' (first
    | (refine H_cons ?_; simp)
    | (refine H_nil ?_; simp)
    | (refine V_sseq ?_; simp)
    | (refine V_ret ?_; simp only [RunK])
    | (refine CallP.fun_ (h1) (by first | rfl | fail) (by first | assumption | (simp; done) | fail) (by first | (simp; done) | (simp; rfl) | fail) (by first | (simp; done) | fail) (fun d hd => ?_); subst hd; (try simp))
    | fail)
  (refine EndW.here ?_; (first | (refine EndOK.fin (.inr rfl) ?_) | (refine EndOK.fin (.inl rfl) ?_)); simp [resD, oneOrTup, Tryd.results38]; refine FinOK.here (by simp) ?_; try simp)
theorem caught_none (i j nx : Nat) (hi : i < nx) (hj : j < nx) (hij : i ≠ j) (p e : Int) :
    RetX Tryd.prog 40 [.u (.oth .nilIface), .ptr i 0, .ptr j 0] [(i, .box [.u (.int .i64 p)]), (j, .box [.u (.int .i64 e)])] nx
      (fun r o n => r = .val (.u (.bool false)) ∧ o = [(i, .box [.u (.int .i64 p)]), (j, .box [.u (.int .i64 e)])] ∧ n = nx) := by
  have hne := ne_facts hi
  have hne2 := ne_facts hj
  (refine RetX.of_bodyW Tryd.func40 rfl (by simp) fun Γ hn hpan => ?_); simp only [entry, List.zipIdx_cons, List.zipIdx_nil, List.map_cons, List.map_nil, Nat.zero_add, Tryd.ntmps40]
  repeat' (first
    | (refine H_cons ?_; simp [hne, hne2, hij, Ne.symm hij])
    | (refine H_nil ?_; simp [hne, hne2, hij, Ne.symm hij])
    | (refine V_sseq ?_; simp [hne, hne2, hij, Ne.symm hij])
    | fail)
  refine ⟨[.int .i64 0, .int .i64 0], rfl, ?_⟩
  repeat' (first
    | (refine H_cons ?_; simp [hne, hne2, hij, Ne.symm hij])
    | (refine H_nil ?_; simp [hne, hne2, hij, Ne.symm hij])
    | (refine V_sseq ?_; simp [hne, hne2, hij, Ne.symm hij])
    | (refine V_scond ?_; simp [hne, hne2, hij, Ne.symm hij])
    | (refine V_ret ?_; simp only [RunK])
    | (refine V_skip ?_; simp only [RunK])
    | fail)
  (refine EndW.here ?_; (first | (refine EndOK.fin (.inr rfl) ?_) | (refine EndOK.fin (.inl rfl) ?_)); simp [resD, oneOrTup, Tryd.results40, hne, hne2, hij, Ne.symm hij, hi, hj]; refine FinOK.cut [(i, .box [.u (.int .i64 p)]), (j, .box [.u (.int .i64 e)])] (nx) (by simp [getK_cons, getK, getK_append, getK_del, Ob.under, D.under, under_rowsD, under_entD, hne, hne2, hij, Ne.symm hij, hi, hj] <;> omega) (by simp [D.under]) (by simp [hn]) ?_; try simp)
theorem caught_stop (i j nx : Nat) (hi : i < nx) (hj : j < nx) (hij : i ≠ j) (p e pos err : Int) :
    RetX Tryd.prog 40 [.u (.oth (.iface 119 (.agg #[.int .i64 pos, .int .i64 err]))), .ptr i 0, .ptr j 0] [(i, .box [.u (.int .i64 p)]), (j, .box [.u (.int .i64 e)])] nx
      (fun r o n => r = .val (.u (.bool true)) ∧ o = [(i, .box [.u (.int .i64 pos)]), (j, .box [.u (.int .i64 err)])] ∧ n = nx) := by
  have hne := ne_facts hi
  have hne2 := ne_facts hj
  (refine RetX.of_bodyW Tryd.func40 rfl (by simp) fun Γ hn hpan => ?_); simp only [entry, List.zipIdx_cons, List.zipIdx_nil, List.map_cons, List.map_nil, Nat.zero_add, Tryd.ntmps40]
  repeat' (first
    | (refine H_cons ?_; simp [hne, hne2, hij, Ne.symm hij])
    | (refine HD4_val rfl ?_; simp [hne, hne2, hij, Ne.symm hij])
    | (refine HD4_chg rfl ?_; simp [hne, hne2, hij, Ne.symm hij])
    | (refine H_nil ?_; simp [hne, hne2, hij, Ne.symm hij])
    | (refine V_sseq ?_; simp [hne, hne2, hij, Ne.symm hij])
    | (refine V_scond ?_; simp [hne, hne2, hij, Ne.symm hij])
    | (refine HD4_nil (hC _ (okP4_ren [i, j] nx (by simp <;> omega) (by simp <;> omega) (by apply Exists.intro; apply And.intro; (focus (repeat' (first | exact KF.nil | exact KL.nil | apply KF.cons | apply KL.cons 0 rfl | apply KL.cons 1 rfl | apply KL.cons 2 rfl | apply KL.cons 3 rfl | apply KL.cons 4 rfl | apply KL.cons 5 rfl | apply KL.cons 6 rfl | apply KL.cons 7 rfl | apply KL.cons 8 rfl | apply KL.cons 9 rfl))); kernel_rfl))) (hk _ ?_); clear hC hk C k; simp only [RunK])
    | (refine V_drawX rfl (by kernel_rfl) (by first | (simp [hn]; done) | (simp [hn]; omega) | fail) fun C k hC hk => ?_; simp [hne, hne2, hij, Ne.symm hij])
    | (refine V_ret ?_; simp only [RunK])
    | (refine V_skip ?_; simp only [RunK])
    | fail)
  (refine EndW.here ?_; (first | (refine EndOK.fin (.inr rfl) ?_) | (refine EndOK.fin (.inl rfl) ?_)); simp [resD, oneOrTup, Tryd.results40, hne, hne2, hij, Ne.symm hij, hi, hj]; refine FinOK.cut [(i, .box [.u (.int .i64 pos)]), (j, .box [.u (.int .i64 err)])] (nx) (by simp [getK_cons, getK, getK_append, getK_del, Ob.under, D.under, under_rowsD, under_entD, hne, hne2, hij, Ne.symm hij, hi, hj] <;> omega) (by simp [D.under]) (by simp [hn]) ?_; try simp)
end Go.Proofs.YtfcopibncpkdoaaDoor
namespace Go.Proofs.YtfcopibncpkdoaaDoor
open Go Go.VL
attribute [local simp] HS hcons hstep evPure opd uOf putOK St.put St.at getK binD binI binS binB nilD aggD eqUs cmpK lookD lookR rangeD nextD entryD keyD valU keyU lookK mkV entD_nil lookK_entD updK_entD1 updK_entD2 updK_entD3 allUE allUE_entD makeMapD mapUpdD mapEff updK valM Key.kk shiftI arith unD convD pickD loadD cellsAt fieldAddrD fieldD indexAddrD indexD sliceD cutD lenD minmaxD nilCheckD buildD fillD cellsD isOne ones setAll mkAgg allU allocD boxD storeD St.add buildSliceD appendD rowsOf makeD setOb getK_setOb getK_del getK_cons stripL strip guardTmp entry chunks zcells valD argsV argsW argW argU1 argU0 argsU0 argsU1 calleeOf scalarD scalarU delAll effD St.effS RK_seq RK_seq_ret RK_seq_exit RK_blk RK_blk_ret RK_blk_exit RK_loop RK_loop_ret RK_loop_exit RK_done vs_seq vs_block vs_skip vs_label vs_exit vs_ret vs_cond vs_region vs_loop vs_draw vs_range vs_scope applyW mkD rdIds lentIds callOf calleeOf freeOp D.ids Op.operands Call.operands isEffOp makeIfD typeAssertD conc concs conc1 uOfV panicD IntKind.bits allU2 allU2_append List.take_of_length_le List.range_succ
attribute [local irreducible] V G H HD HD2 HD4 HD4h RetX RunK Eff CallP CallV EndOK Fun Ret FinOK LoopI LoopW EndW
theorem pdef_ret (i j q nx : Nat) (hi : i < nx) (hj : j < nx) (hq : q < nx) (hij : i ≠ j) (hiq : i ≠ q) (hjq : j ≠ q) (p e : Int) (cells : List U) :
    RetDf Tryd.prog 39 [.ptr i 0, .ptr j 0, .ptr q 0] [(i, .box [.u (.int .i64 p)]), (j, .box [.u (.int .i64 e)]), (q, .box (cells.map .u))] nx .returning
      (fun u o n => settle u = .returning ∧ n = nx ∧ o = [(i, .box [.u (.int .i64 p)]), (j, .box [.u (.int .i64 e)]), (q, .box (cells.map .u))]) := by
  have hne := ne_facts hi
  have hne2 := ne_facts hj
  have hne3 := ne_facts hq
  have hc0 := caught_none i j nx hi hj hij p e
  refine RetDf.of_body Tryd.func39 rfl (by simp) (by simp) rfl fun Γ hn => ?_
  simp [entry, recU, Tryd.ntmps39]
  refine CallP.x2 hc0 (by simp [getK]) (by simp [getK, hij, Ne.symm hij]) hij rfl rfl (by simp) (by simp) (fun d o1 nx' hnx h => ?_) (fun ch o1 nx' hnx h => by cases h.1)
  obtain ⟨h1, rfl, h4⟩ := h
  have h4 := h4.symm
  subst h4
  cases h1
  simp [del, hij, Ne.symm hij, hiq, hjq, Ne.symm hiq, Ne.symm hjq]
  repeat' (first
    | (refine V_scond ?_; simp [hij, hiq, hjq])
    | (refine V_skip ?_; simp only [RunK])
    | fail)
  (refine ⟨by simp, { n := _, env := [], obs := [(i, .box [.u (.int .i64 p)]), (j, .box [.u (.int .i64 e)]), (q, .box (cells.map .u))], next := nx }, (Wk.cut rfl (by simp [hn]) (by simp [wkO, getK_cons, getK, getK_append, getK_del, Ob.under, D.under, under_rowsD, under_entD, hi, hj, hq, hne, hne2, hne3, hij, hiq, hjq, Ne.symm hij, Ne.symm hiq, Ne.symm hjq]) (by simp [wkU, keepE, getK_cons, getK, D.under, hi, hj, hq, hne, hne2, hne3, hij, hiq, hjq, Ne.symm hij, Ne.symm hiq, Ne.symm hjq]) (by simp [wkE, keepE, getK_cons, getK, hi, hj, hq, hne, hne2, hne3, hij, hiq, hjq, Ne.symm hij, Ne.symm hiq, Ne.symm hjq])), by simp [hn], ?_⟩; try simp)
  all_goals rfl
end Go.Proofs.YtfcopibncpkdoaaDoor
namespace Go.Proofs.YtfcopibncpkdoaaDoor
open Go Go.VL
attribute [local simp] HS hcons hstep evPure opd uOf putOK St.put St.at getK binD binI binS binB nilD aggD eqUs cmpK lookD lookR rangeD nextD entryD keyD valU keyU lookK mkV entD_nil lookK_entD updK_entD1 updK_entD2 updK_entD3 allUE allUE_entD makeMapD mapUpdD mapEff updK valM Key.kk shiftI arith unD convD pickD loadD cellsAt fieldAddrD fieldD indexAddrD indexD sliceD cutD lenD minmaxD nilCheckD buildD fillD cellsD isOne ones setAll mkAgg allU allocD boxD storeD St.add buildSliceD appendD rowsOf makeD setOb getK_setOb getK_del getK_cons stripL strip guardTmp entry chunks zcells valD argsV argsW argW argU1 argU0 argsU0 argsU1 calleeOf scalarD scalarU delAll effD St.effS RK_seq RK_seq_ret RK_seq_exit RK_blk RK_blk_ret RK_blk_exit RK_loop RK_loop_ret RK_loop_exit RK_done vs_seq vs_block vs_skip vs_label vs_exit vs_ret vs_cond vs_region vs_loop vs_draw vs_range vs_scope applyW mkD rdIds lentIds callOf calleeOf freeOp D.ids Op.operands Call.operands isEffOp makeIfD typeAssertD conc concs conc1 uOfV panicD IntKind.bits allU2 allU2_append List.take_of_length_le List.range_succ
attribute [local irreducible] V G H HD HD2 HD4 HD4h RetX RunK Eff CallP CallV EndOK Fun Ret FinOK LoopI LoopW EndW
abbrev expOb0 : Ob := .box [.u (.int .i64 0), .u (.int .i64 0), .u (.int .i64 0), .u (.str []), .u .nil]
theorem pdef_pan (i j q nx : Nat) (hi : i < nx) (hj : j < nx) (hq : q < nx) (hij : i ≠ j) (hiq : i ≠ q) (hjq : j ≠ q) (p e pos err : Int) (a b c : Int) (t : List UInt8) (g : U) :
    RetDf Tryd.prog 39 [.ptr i 0, .ptr j 0, .ptr q 0] [(i, .box [.u (.int .i64 p)]), (j, .box [.u (.int .i64 e)]), (q, .box [.u (.int .i64 a), .u (.int .i64 b), .u (.int .i64 c), .u (.str t), .u g])] nx (.panicking (chP pos err))
      (fun u o n => settle u = .returning ∧ n = nx ∧ o = [(i, .box [.u (.int .i64 pos)]), (j, .box [.u (.int .i64 err)]), (q, expOb0)]) := by
  have hne := ne_facts hi
  have hne2 := ne_facts hj
  have hne3 := ne_facts hq
  have hc0 := caught_stop i j nx hi hj hij p e pos err
  refine RetDf.of_body Tryd.func39 rfl (by simp) (by simp) rfl fun Γ hn => ?_
  simp [entry, recU, chP, Tryd.ntmps39]
  refine CallP.x2 hc0 (by simp [getK]) (by simp [getK, hij, Ne.symm hij]) hij rfl rfl (by simp) (by simp) (fun d o1 nx' hnx h => ?_) (fun ch o1 nx' hnx h => by cases h.1)
  obtain ⟨h1, rfl, h4⟩ := h
  have h4 := h4.symm
  subst h4
  cases h1
  simp [del, hij, Ne.symm hij, hiq, hjq, Ne.symm hiq, Ne.symm hjq]
  repeat' (first
    | (refine H_cons ?_; simp [hij, hiq, hjq])
    | (refine H_nil ?_; simp [hij, hiq, hjq])
    | (refine V_scond ?_; simp [hij, hiq, hjq])
    | (refine V_sregion ?_; simp [hij, hiq, hjq])
    | fail)
  (refine ⟨by simp, { n := _, env := [], obs := [(i, .box [.u (.int .i64 pos)]), (j, .box [.u (.int .i64 err)]), (q, expOb0)], next := nx }, (Wk.cut rfl (by simp [hn]) (by simp [wkO, getK_cons, getK, getK_append, getK_del, Ob.under, D.under, under_rowsD, under_entD, hi, hj, hq, hne, hne2, hne3, hij, hiq, hjq, Ne.symm hij, Ne.symm hiq, Ne.symm hjq]) (by simp [wkU, keepE, getK_cons, getK, D.under, hi, hj, hq, hne, hne2, hne3, hij, hiq, hjq, Ne.symm hij, Ne.symm hiq, Ne.symm hjq]) (by simp [wkE, keepE, getK_cons, getK, hi, hj, hq, hne, hne2, hne3, hij, hiq, hjq, Ne.symm hij, Ne.symm hiq, Ne.symm hjq])), by simp [hn], ?_⟩; try simp)
  all_goals rfl
theorem lexF_ok {s : List UInt8} : ∀ (f p : Nat) (l : List Tok), lexF f s p = .ok l → s.length < p + f → p ≤ s.length →
    (∀ (i : Nat) (t : Tok), l[i]? = some t → t.kind ≠ 0 → i + 1 < l.length) ∧ l.length ≤ s.length - p + 1 ∧ 0 < l.length
  | 0, p, l, _, h2, h3 => by omega
  | f + 1, p, l, h, h2, h3 => by
    rw [lexF] at h
    have hle := spanL_le isBlank (s.drop p)
    rw [List.length_drop] at hle
    split at h
    · cases h
      refine ⟨fun i t hi hk => ?_, by simp, by simp⟩
      rcases i with _ | i
      · simp at hi
        subst hi
        exact absurd rfl hk
      · simp at hi
    · rename_i c r hd
      have hdl : (s.drop (p + spanL isBlank (s.drop p))).length = r.length + 1 := by rw [hd]; rfl
      rw [List.length_drop] at hdl
      split at h
      · cases h
      · rename_i t ht
        obtain ⟨ht1, ht2⟩ := nextO_text ht
        simp only [List.length_cons] at ht2
        split at h
        · cases h
        · rename_i l' hl'
          cases h
          obtain ⟨g1, g2, g3⟩ := lexF_ok f _ l' hl' (by omega) (by omega)
          refine ⟨fun i t' hi hk => ?_, by simp only [List.length_cons]; omega, by simp⟩
          rcases i with _ | i
          · simp; exact g3
          · simp only [List.getElem?_cons_succ] at hi
            have := g1 i t' hi hk
            simp only [List.length_cons]
            omega
theorem lexL_ok {s : List UInt8} {l : List Tok} (h : lexL s = .ok l) : TokOK l ∧ l.length ≤ 2001 ∧ 0 < l.length := by
  unfold lexL at h
  split at h
  · cases h
  · obtain ⟨g1, g2, g3⟩ := lexF_ok _ _ _ h (by omega) (by omega)
    exact ⟨⟨g1, by omega⟩, by omega, g3⟩
theorem Exp.lev_mk {op n u : Int} {s : List UInt8} {args : List Exp} {B : Int} (h : ∀ x ∈ args, x.lev ≤ B) (h0 : 0 ≤ B) : (Exp.mk op n u s args).lev ≤ B + 1 := by
  rw [Exp.lev_eq]
  simp only [Exp.args]
  have : ∀ (l : List Int) (a : Int), a ≤ B → (∀ x ∈ l, x ≤ B) → l.foldl max a ≤ B := by
    intro l
    induction l with
    | nil => intro a ha _; exact ha
    | cons b l ih => intro a ha hl; exact ih _ (by have := hl b (by simp); omega) fun x hx => hl x (by simp [hx])
  have := this (args.map Exp.lev) 0 h0 (fun x hx => by obtain ⟨y, hy, rfl⟩ := List.mem_map.1 hx; exact h y hy)
  omega
theorem parse_lev {l : List Tok} : ∀ (f : Nat),
    (∀ p form e q, expP l f p form = .ok e q → e.lev ≤ f * f + 1) ∧
    (∀ form e own p e' q, loopP l f form e own p = .ok e' q → e'.lev ≤ max e.lev (f * f + 1) + f) ∧
    (∀ p form e q, prefixP l f p form = .ok e q → e.1.lev ≤ f * f + 1) ∧
    (∀ p e q, primaryP l f p = .ok e q → e.lev ≤ f * f + 1)
  | 0 => ⟨fun _ _ _ _ h => by simp [expP] at h, fun _ _ _ _ _ _ h => by simp [loopP] at h, fun _ _ _ _ h => by simp [prefixP] at h, fun _ _ _ h => by simp [primaryP] at h⟩
  | f + 1 => by
    obtain ⟨he, hlo, hpr, hpm⟩ := parse_lev f
    have hsq : ((f + 1 : Nat) : Int) * ((f + 1 : Nat) : Int) = (f : Int) * f + 2 * f + 1 := by
      rw [show ((f + 1 : Nat) : Int) = (f : Int) + 1 by omega, Int.add_mul, Int.mul_add]; omega
    rw [hsq]
    have h0 : (0 : Int) ≤ (f : Int) * f := Int.mul_nonneg (by omega) (by omega)
    generalize hF : (f : Int) * f = F at *
    refine ⟨fun p form e q h => ?_, fun form e own p e' q h => ?_, fun p form e q h => ?_, fun p e q h => ?_⟩
    · rw [expP] at h
      obtain ⟨a, r, h1, h2⟩ := PR.bind_out h
      have g1 := hpr _ _ _ _ h1
      have g2 := hlo _ _ _ _ _ _ h2
      omega
    · rw [loopP] at h
      split at h
      · cases h; omega
      · split at h
        · cases h; omega
        · obtain ⟨a, r, h1, h2⟩ := PR.bind_out h
          have g1 := he _ _ _ _ h1
          have g2 := hlo _ _ _ _ _ _ h2
          rename_i x _ _
          have g3 := Exp.lev_mk (op := x.op) (n := 0) (u := 0) (s := []) (args := [e, a]) (B := max e.lev (F + 1)) (by
            intro y hy
            simp only [List.mem_cons, List.not_mem_nil, or_false] at hy
            rcases hy with rfl | rfl <;> omega) (by omega)
          omega
    · rw [prefixP] at h
      split at h
      · obtain ⟨a, r, h1, h⟩ := PR.bind_out h
        obtain ⟨_, r2, h2, h⟩ := PR.bind_out h
        obtain ⟨b, r3, h3, h⟩ := PR.bind_out h
        obtain ⟨_, r4, h4, h⟩ := PR.bind_out h
        obtain ⟨c, r5, h5, h⟩ := PR.bind_out h
        cases h
        have g1 := he _ _ _ _ h1
        have g3 := he _ _ _ _ h3
        have g5 := he _ _ _ _ h5
        have := Exp.lev_mk (op := 13) (n := 0) (u := 0) (s := []) (args := [a, b, c]) (B := F + 1) (by
          intro y hy
          simp only [List.mem_cons, List.not_mem_nil, or_false] at hy
          rcases hy with rfl | rfl | rfl <;> omega) (by omega)
        simp only
        omega
      · split at h
        · obtain ⟨a, r, h1, h⟩ := PR.bind_out h
          cases h
          have g1 := he _ _ _ _ h1
          have := Exp.lev_mk (op := 12) (n := 0) (u := 0) (s := []) (args := [a]) (B := F + 1) (by
            intro y hy
            simp only [List.mem_cons, List.not_mem_nil, or_false] at hy
            rcases hy with rfl; omega) (by omega)
          simp only
          omega
        · obtain ⟨a, r, h1, h⟩ := PR.bind_out h
          cases h
          have g1 := hpm _ _ _ h1
          simp only
          omega
    · have leaf : ∀ (op n u : Int) (s : List UInt8), (Exp.mk op n u s []).lev ≤ F + 2 * f + 1 + 1 := fun op n u s => by
        have := Exp.lev_mk (op := op) (n := n) (u := u) (s := s) (args := []) (B := 0) (by simp) (by omega)
        omega
      rw [primaryP] at h
      split at h
      · cases h
      · split at h
        · obtain ⟨a, r, h1, h⟩ := PR.bind_out h
          cases h; exact leaf ..
        split at h
        · cases h; exact leaf ..
        split at h
        · cases h; exact leaf ..
        split at h
        · obtain ⟨_, r2, h2, h⟩ := PR.bind_out h
          obtain ⟨a, r3, h3, h⟩ := PR.bind_out h
          obtain ⟨_, r4, h4, h⟩ := PR.bind_out h
          obtain ⟨b, r5, h5, h⟩ := PR.bind_out h
          obtain ⟨_, r6, h6, h⟩ := PR.bind_out h
          have g3 := he _ _ _ _ h3
          have g5 := he _ _ _ _ h5
          have := Exp.lev_mk (op := if isB l p [109, 97, 120] = true then 7 else 6) (n := 0) (u := 0) (s := []) (args := [a, b]) (B := F + 1) (by
            intro y hy
            simp only [List.mem_cons, List.not_mem_nil, or_false] at hy
            rcases hy with rfl | rfl <;> omega) (by omega)
          cases h
          omega
        split at h
        · obtain ⟨a, r3, h3, h⟩ := PR.bind_out h
          obtain ⟨_, r4, h4, h⟩ := PR.bind_out h
          cases h
          have g3 := he _ _ _ _ h3
          omega
        split at h
        · cases h; exact leaf ..
        · cases h
def kindAt (l : List Tok) (p : Nat) : Int := match l[p]? with | some t => t.kind | none => 0
def zeroE : Exp := .mk 0 0 0 [] []
/-- What ParseExp returns: the expression, the place, the error. -/
def parseX (s : List UInt8) : Exp × Int × Int := match lexL s with
  | .error (p, e) => (zeroE, p, e)
  | .ok l => match expP l (4 * l.length + 3) 0 0 with
    | .stop pos e => (zeroE, pos, e)
    | .ok y q => if kindAt l q ≠ 0 then (zeroE, posAt l q, 12) else if 12 < y.lev then (zeroE, posAt l q, 6) else (y, 0, 0)
end Go.Proofs.YtfcopibncpkdoaaDoor
namespace Go.Proofs.YtfcopibncpkdoaaDoor
open Go Go.VL
attribute [local simp] HS hcons hstep evPure opd uOf putOK St.put St.at getK binD binI binS binB nilD aggD eqUs cmpK lookD lookR rangeD nextD entryD keyD valU keyU lookK mkV entD_nil lookK_entD updK_entD1 updK_entD2 updK_entD3 allUE allUE_entD makeMapD mapUpdD mapEff updK valM Key.kk shiftI arith unD convD pickD loadD cellsAt fieldAddrD fieldD indexAddrD indexD sliceD cutD lenD minmaxD nilCheckD buildD fillD cellsD isOne ones setAll mkAgg allU allocD boxD storeD St.add buildSliceD appendD rowsOf makeD setOb getK_setOb getK_del getK_cons stripL strip guardTmp entry chunks zcells valD argsV argsW argW argU1 argU0 argsU0 argsU1 calleeOf scalarD scalarU delAll effD St.effS RK_seq RK_seq_ret RK_seq_exit RK_blk RK_blk_ret RK_blk_exit RK_loop RK_loop_ret RK_loop_exit RK_done vs_seq vs_block vs_skip vs_label vs_exit vs_ret vs_cond vs_region vs_loop vs_draw vs_range vs_scope applyW mkD rdIds lentIds callOf calleeOf freeOp D.ids Op.operands Call.operands isEffOp makeIfD typeAssertD conc concs conc1 uOfV panicD IntKind.bits allU2 allU2_append List.take_of_length_le List.range_succ
attribute [local irreducible] V G H HD HD2 HD4 HD4h RetX RunK Eff CallP CallV EndOK Fun Ret FinOK LoopI LoopW EndW
theorem nextO_err {c : UInt8} {r : List UInt8} {e : Int} (h : nextO (c :: r) = .error e) : e ≠ 0 := by
  unfold nextO at h
  simp only at h
  split at h
  · split at h <;> cases h
    omega
  · split at h
    · split at h <;> cases h
      omega
    · split at h <;> cases h
      omega
theorem lexF_err {s : List UInt8} : ∀ (f p : Nat) (q : Nat) (e : Int), lexF f s p = .error (q, e) → p ≤ s.length → e ≠ 0 ∧ q ≤ s.length
  | 0, p, q, e, h, _ => by simp [lexF] at h
  | f + 1, p, q, e, h, h3 => by
    rw [lexF] at h
    have hle := spanL_le isBlank (s.drop p)
    rw [List.length_drop] at hle
    split at h
    · cases h
    · rename_i c r hd
      have hdl : (s.drop (p + spanL isBlank (s.drop p))).length = r.length + 1 := by rw [hd]; rfl
      rw [List.length_drop] at hdl
      split at h
      · rename_i ht
        cases h
        exact ⟨nextO_err ht, by omega⟩
      · rename_i t ht
        obtain ⟨ht1, ht2⟩ := nextO_text ht
        simp only [List.length_cons] at ht2
        split at h
        · rename_i x hx
          cases h
          exact lexF_err f _ q e hx (by omega)
        · cases h
theorem lexL_err {s : List UInt8} {q : Nat} {e : Int} (h : lexL s = .error (q, e)) : e ≠ 0 ∧ q ≤ s.length := by
  unfold lexL at h
  split at h
  · cases h; exact ⟨by decide, by omega⟩
  · exact lexF_err _ _ _ _ h (by omega)
def xOut (r : Exp × Int × Int) : D := .tup [.u (.agg r.1.row), .u (.int .i64 r.2.1), .u (.int .i64 r.2.2)]
theorem parseExp_ret (s : List UInt8) : RetX Tryd.prog 24 [.u (.str s)] [] 0 (fun r o n => r = .val (xOut (parseX s))) := by
  unfold parseX
  cases hlx : lexL s with
  | error pe =>
    obtain ⟨p, e⟩ := pe
    have ho := fun nx => open_err s p e nx hlx
    have he := (lexL_err hlx).1
    simp only
    (refine RetX.of_bodyD Tryd.func24 rfl (by simp) fun Γ hn hdfr hpan hesc => ?_); simp only [entry, List.zipIdx_cons, List.zipIdx_nil, List.map_cons, List.map_nil, Nat.zero_add, Tryd.ntmps24]
    repeat' (first
    | (refine H_cons ?_; simp [he])
    | (refine HD4_val rfl ?_; simp [he])
    | (refine HD4_chg rfl ?_; simp [he])
    | (refine H_nil ?_; simp [he])
    | (refine V_sseq ?_; simp [he])
    | (refine V_scond ?_; simp [he])
    | (refine HD4_nil (hC _ (by kernel_rfl)) (hk _ ?_); clear hC hk C k; simp only [RunK])
    | (refine V_drawX rfl (by kernel_rfl) (by first | (simp [hn]; done) | (simp [hn]; omega) | fail) fun C k hC hk => ?_; simp [he])
    | (refine V_ret ?_; simp only [RunK])
    | (refine CallP.okL (ho _) (by first | (simp [he, getK_cons, getK, getK_append, getK_del, getK_setOb, applyW, del]; done) | fail) (by rfl) (by first | assumption | (simp; done) | fail) (by rfl) (by simp) ?_; (try simp [he, delL, del]))
    | fail)
    refine EndW.norm ?_
    simp [St.norm, normOb, normD, normU, norm1]
    (refine EndW.here ?_; (first | (refine EndOK.fin (.inr rfl) ?_) | (refine EndOK.fin (.inl rfl) ?_)); simp [resD, oneOrTup, Tryd.results24]; refine FinOK.here (by simp) ?_; try simp)
    simp [xOut, Exp.row, zeroE]
  | ok l =>
    obtain ⟨hl, hl2, hl0⟩ := lexL_ok hlx
    have ho := fun nx => open_ok s l nx hlx
    have hE := (parse_all hl (4 * l.length + 3)).1 0 0 3 4 (by omega) hl0 (by omega) (by omega) (by omega)
    simp only
    cases hr : expP l (4 * l.length + 3) 0 0 with
    | stop pos e =>
      simp only [hr] at hE ⊢
      (refine RetX.of_bodyD Tryd.func24 rfl (by simp) fun Γ hn hdfr hpan hesc => ?_); simp only [entry, List.zipIdx_cons, List.zipIdx_nil, List.map_cons, List.map_nil, Nat.zero_add, Tryd.ntmps24]
      rw [hold_defer]
      repeat' (first
    | (refine H_cons ?_; simp)
    | (refine H_nil ?_; simp)
    | (refine V_sseq ?_; simp)
    | (refine V_scond ?_; simp)
    | (refine V_skip ?_; simp only [RunK])
    | (refine CallP.okL (ho _) (by first | (simp [getK_cons, getK, getK_append, getK_del, getK_setOb, applyW, del]; done) | fail) (by rfl) (by first | assumption | (simp; done) | fail) (by rfl) (by simp) ?_; (try simp [delL, del]))
    | fail)
      refine V_defer hesc hdfr rfl (by simp) ?_
      have hn0 := hn
      have hpan0 := hpan
      intro Γ' hn hpan
      simp
      repeat' (first
    | (refine H_cons ?_; simp)
    | (refine V_sseq ?_; simp)
    | (refine CallP.pan1 (hE) (by first | (simp [getK_cons, getK, getK_append, getK_del]; done) | fail) (by rfl) (by first | assumption | (simp; done) | fail) (by rfl) (by simp) ?_; rintro ob' ⟨q', rfl⟩; refine ⟨_, Wk.refl _, ?_⟩)
    | fail)
      refine hpan _ _ ?_
      refine LeaveD.of [(1, .box [.u (.int .i64 0)]), (2, .box [.u (.int .i64 0)]), (0, expOb0)] (by simp [getK_cons, getK, getK_append, getK_del]) (pdef_pan 1 2 0 _ (by simp) (by simp) (by simp) (by decide) (by decide) (by decide) 0 0 _ _ 0 0 0 [] .nil) ?_
      simp only [show Γ.base.n0 = 0 from hn0]
      simp [delL, del]
      refine EndW.norm ?_
      simp [St.norm, normOb, normD, normU, norm1]
      (refine EndW.here ?_; (first | (refine EndOK.fin (.inr rfl) ?_) | (refine EndOK.fin (.inl rfl) ?_)); simp [resD, oneOrTup, Tryd.results24]; refine FinOK.here (by simp) ?_; try simp)
      simp [xOut, Exp.row, zeroE]
    | ok y q =>
      have hEx := exp_ok hE hr
      obtain ⟨g0a, g0b⟩ := (parse_le hl _).1 _ _ _ _ hr hl0
      have hlev := (parse_lev (l := l) _).1 _ _ _ _ hr
      have hlev2 : y.lev ≤ 1000000000 := by
        have h1 : ((4 * l.length + 3 : Nat) : Int) * ((4 * l.length + 3 : Nat) : Int) ≤ 8007 * 8007 := Int.mul_le_mul (by omega) (by omega) (by omega) (by omega)
        omega
      have hlv := levels_all (SizeOf.sizeOf y) y (Nat.le_refl _) hlev2
      rw [Exp.row_eq] at hlv
      obtain ⟨t, ht⟩ : ∃ t, l[q]? = some t := ⟨_, List.getElem?_eq_getElem g0b⟩
      have hnx := pnext_fun l q t ht hl.len
      have hka : kindAt l q = t.kind := by unfold kindAt; rw [ht]
      have hpa : posAt l q = t.pos := by unfold posAt; rw [ht]
      simp only [hka, hpa]
      by_cases hk : t.kind = 0
      · have hc1 := fun nx (h : 3 < nx) => check_ok l q 12 3 nx h
        rw [if_neg (by simp [hk])]
        by_cases hv : 12 < y.lev
        · have hc2 := fun nx (h : 3 < nx) => check_pan l q t 6 3 nx h ht hl.len
          have hv2 : ¬ y.lev ≤ 12 := by omega
          rw [if_pos hv]
          (refine RetX.of_bodyD Tryd.func24 rfl (by simp) fun Γ hn hdfr hpan hesc => ?_); simp only [entry, List.zipIdx_cons, List.zipIdx_nil, List.map_cons, List.map_nil, Nat.zero_add, Tryd.ntmps24]
          rw [hold_defer]
          repeat' (first
    | (refine H_cons ?_; simp)
    | (refine H_nil ?_; simp)
    | (refine V_sseq ?_; simp)
    | (refine V_scond ?_; simp)
    | (refine V_skip ?_; simp only [RunK])
    | (refine CallP.okL (ho _) (by first | (simp [getK_cons, getK, getK_append, getK_del, getK_setOb, applyW, del]; done) | fail) (by rfl) (by first | assumption | (simp; done) | fail) (by rfl) (by simp) ?_; (try simp [delL, del]))
    | fail)
          refine V_defer hesc hdfr rfl (by simp) ?_
          have hn0 := hn
          have hpan0 := hpan
          intro Γ' hn hpan
          simp
          repeat' (first
    | (refine H_cons ?_; simp [hk, hv, hv2, del])
    | (refine H_nil ?_; simp [hk, hv, hv2, del])
    | (refine V_sseq ?_; simp [hk, hv, hv2, del])
    | (refine CallP.fun_ (hlv) (by first | rfl | fail) (by first | assumption | (simp; done) | fail) (by first | (simp [hk, hv, hv2, del]; done) | (simp [hk, hv, hv2, del]; rfl) | fail) (by first | (simp; done) | fail) (fun d hd => ?_); subst hd; (try simp [hk, hv, hv2, del]))
    | (refine CallP.fun_ (hnx) (by first | rfl | fail) (by first | assumption | (simp; done) | fail) (by first | (simp [hk, hv, hv2, del]; done) | (simp [hk, hv, hv2, del]; rfl) | fail) (by first | (simp; done) | fail) (fun d hd => ?_); subst hd; (try simp [hk, hv, hv2, del]))
    | (refine CallP.ok1 (hEx) (by first | (simp [hk, hv, hv2, del, getK_cons, getK, getK_append, getK_del]; done) | fail) (by rfl) (by first | assumption | (simp; done) | fail) (by rfl) (by simp) ?_; (try simp [hk, hv, hv2, del]))
    | (refine CallP.ok1 (hc1 _ (by simp)) (by first | (simp [hk, hv, hv2, del, getK_cons, getK, getK_append, getK_del]; done) | fail) (by rfl) (by first | assumption | (simp; done) | fail) (by rfl) (by simp) ?_; (try simp [hk, hv, hv2, del]))
    | (refine CallP.pan1 (hc2 _ (by simp)) (by first | (simp [hk, hv, hv2, del, getK_cons, getK, getK_append, getK_del]; done) | fail) (by rfl) (by first | assumption | (simp; done) | fail) (by rfl) (by simp) ?_; rintro ob' ⟨q', rfl⟩; refine ⟨_, Wk.refl _, ?_⟩)
    | fail)
          refine hpan _ _ ?_
          refine LeaveD.of [(1, .box [.u (.int .i64 0)]), (2, .box [.u (.int .i64 0)]), (0, expOb0)] (by simp [getK_cons, getK, getK_append, getK_del]) (pdef_pan 1 2 0 _ (by simp) (by simp) (by simp) (by decide) (by decide) (by decide) 0 0 _ _ 0 0 0 [] .nil) ?_
          simp only [show Γ.base.n0 = 0 from hn0]
          simp [delL, del]
          refine EndW.norm ?_
          simp [St.norm, normOb, normD, normU, norm1]
          (refine EndW.here ?_; (first | (refine EndOK.fin (.inr rfl) ?_) | (refine EndOK.fin (.inl rfl) ?_)); simp [resD, oneOrTup, Tryd.results24]; refine FinOK.here (by simp) ?_; try simp)
          simp [xOut, Exp.row, zeroE]
        · have hc2 := fun nx (h : 3 < nx) => check_ok l q 6 3 nx h
          have hv2 : y.lev ≤ 12 := by omega
          rw [if_neg hv]
          (refine RetX.of_bodyD Tryd.func24 rfl (by simp) fun Γ hn hdfr hpan hesc => ?_); simp only [entry, List.zipIdx_cons, List.zipIdx_nil, List.map_cons, List.map_nil, Nat.zero_add, Tryd.ntmps24]
          rw [hold_defer]
          repeat' (first
    | (refine H_cons ?_; simp)
    | (refine H_nil ?_; simp)
    | (refine V_sseq ?_; simp)
    | (refine V_scond ?_; simp)
    | (refine V_skip ?_; simp only [RunK])
    | (refine CallP.okL (ho _) (by first | (simp [getK_cons, getK, getK_append, getK_del, getK_setOb, applyW, del]; done) | fail) (by rfl) (by first | assumption | (simp; done) | fail) (by rfl) (by simp) ?_; (try simp [delL, del]))
    | fail)
          refine V_defer hesc hdfr rfl (by simp) ?_
          have hn0 := hn
          have hpan0 := hpan
          intro Γ' hn hpan
          simp
          repeat' (first
    | (refine H_cons ?_; simp [hk, hv, hv2, del])
    | (refine H_nil ?_; simp [hk, hv, hv2, del])
    | (refine V_sseq ?_; simp [hk, hv, hv2, del])
    | (refine V_ret ?_; simp only [RunK])
    | (refine CallP.fun_ (hlv) (by first | rfl | fail) (by first | assumption | (simp; done) | fail) (by first | (simp [hk, hv, hv2, del]; done) | (simp [hk, hv, hv2, del]; rfl) | fail) (by first | (simp; done) | fail) (fun d hd => ?_); subst hd; (try simp [hk, hv, hv2, del]))
    | (refine CallP.fun_ (hnx) (by first | rfl | fail) (by first | assumption | (simp; done) | fail) (by first | (simp [hk, hv, hv2, del]; done) | (simp [hk, hv, hv2, del]; rfl) | fail) (by first | (simp; done) | fail) (fun d hd => ?_); subst hd; (try simp [hk, hv, hv2, del]))
    | (refine CallP.ok1 (hEx) (by first | (simp [hk, hv, hv2, del, getK_cons, getK, getK_append, getK_del]; done) | fail) (by rfl) (by first | assumption | (simp; done) | fail) (by rfl) (by simp) ?_; (try simp [hk, hv, hv2, del]))
    | (refine CallP.ok1 (hc1 _ (by simp)) (by first | (simp [hk, hv, hv2, del, getK_cons, getK, getK_append, getK_del]; done) | fail) (by rfl) (by first | assumption | (simp; done) | fail) (by rfl) (by simp) ?_; (try simp [hk, hv, hv2, del]))
    | (refine CallP.ok1 (hc2 _ (by simp)) (by first | (simp [hk, hv, hv2, del, getK_cons, getK, getK_append, getK_del]; done) | fail) (by rfl) (by first | assumption | (simp; done) | fail) (by rfl) (by simp) ?_; (try simp [hk, hv, hv2, del]))
    | fail)
          refine ⟨rfl, ?_⟩
          refine LeaveD.of [(1, .box [.u (.int .i64 0)]), (2, .box [.u (.int .i64 0)]), (0, .box ([.int .i64 y.op, .int .i64 y.n, .int .i64 y.unit, .str y.s, .sl (y.args.map Exp.row)].map .u))] (by simp [getK_cons, getK, getK_append, getK_del]) (pdef_ret 1 2 0 _ (by simp) (by simp) (by simp) (by decide) (by decide) (by decide) 0 0 _) ?_
          simp only [show Γ.base.n0 = 0 from hn0]
          simp [delL, del]
          (refine EndW.here ?_; (first | (refine EndOK.fin (.inr rfl) ?_) | (refine EndOK.fin (.inl rfl) ?_)); simp [resD, oneOrTup, Tryd.results24]; refine FinOK.here (by simp) ?_; try simp)
          simp [xOut, Exp.row_eq]
      · have hc1 := fun nx (h : 3 < nx) => check_pan l q t 12 3 nx h ht hl.len
        rw [if_pos hk]
        (refine RetX.of_bodyD Tryd.func24 rfl (by simp) fun Γ hn hdfr hpan hesc => ?_); simp only [entry, List.zipIdx_cons, List.zipIdx_nil, List.map_cons, List.map_nil, Nat.zero_add, Tryd.ntmps24]
        rw [hold_defer]
        repeat' (first
    | (refine H_cons ?_; simp)
    | (refine H_nil ?_; simp)
    | (refine V_sseq ?_; simp)
    | (refine V_scond ?_; simp)
    | (refine V_skip ?_; simp only [RunK])
    | (refine CallP.okL (ho _) (by first | (simp [getK_cons, getK, getK_append, getK_del, getK_setOb, applyW, del]; done) | fail) (by rfl) (by first | assumption | (simp; done) | fail) (by rfl) (by simp) ?_; (try simp [delL, del]))
    | fail)
        refine V_defer hesc hdfr rfl (by simp) ?_
        have hn0 := hn
        have hpan0 := hpan
        intro Γ' hn hpan
        simp
        repeat' (first
    | (refine H_cons ?_; simp [hk, del])
    | (refine H_nil ?_; simp [hk, del])
    | (refine V_sseq ?_; simp [hk, del])
    | (refine CallP.fun_ (hnx) (by first | rfl | fail) (by first | assumption | (simp; done) | fail) (by first | (simp [hk, del]; done) | (simp [hk, del]; rfl) | fail) (by first | (simp; done) | fail) (fun d hd => ?_); subst hd; (try simp [hk, del]))
    | (refine CallP.ok1 (hEx) (by first | (simp [hk, del, getK_cons, getK, getK_append, getK_del]; done) | fail) (by rfl) (by first | assumption | (simp; done) | fail) (by rfl) (by simp) ?_; (try simp [hk, del]))
    | (refine CallP.pan1 (hc1 _ (by simp)) (by first | (simp [hk, del, getK_cons, getK, getK_append, getK_del]; done) | fail) (by rfl) (by first | assumption | (simp; done) | fail) (by rfl) (by simp) ?_; rintro ob' ⟨q', rfl⟩; refine ⟨_, Wk.refl _, ?_⟩)
    | fail)
        refine hpan _ _ ?_
        refine LeaveD.of [(1, .box [.u (.int .i64 0)]), (2, .box [.u (.int .i64 0)]), (0, expOb0)] (by simp [getK_cons, getK, getK_append, getK_del]) (pdef_pan 1 2 0 _ (by simp) (by simp) (by simp) (by decide) (by decide) (by decide) 0 0 _ _ 0 0 0 [] .nil) ?_
        simp only [show Γ.base.n0 = 0 from hn0]
        simp [delL, del]
        refine EndW.norm ?_
        simp [St.norm, normOb, normD, normU, norm1]
        (refine EndW.here ?_; (first | (refine EndOK.fin (.inr rfl) ?_) | (refine EndOK.fin (.inl rfl) ?_)); simp [resD, oneOrTup, Tryd.results24]; refine FinOK.here (by simp) ?_; try simp)
        simp [xOut, Exp.row, zeroE]
theorem parseExp_fun (s : List UInt8) : Fun Tryd.prog 24 [.u (.str s)] (· = .tup [eagg (parseX s).1, .u (.int .i64 (parseX s).2.1), .u (.int .i64 (parseX s).2.2)]) := by
  unfold Fun
  exact (parseExp_ret s).ret (fun d o n h => by
    cases h
    refine ⟨by simp [xOut, pureD], ?_⟩
    rw [xOut, Exp.row_eq]
    rfl) (fun ch o n h => by cases h)
end Go.Proofs.YtfcopibncpkdoaaDoor
namespace Go.Proofs.YtfcopibncpkdoaaDoor
open Go Go.VL
mutual
def levS : Exp → Int
  | .mk _ _ _ _ args => levsS args + 1
def levsS : List Exp → Int
  | [] => 0
  | e :: l => max (levS e) (levsS l)
end
theorem foldl_max_cons (l : List Int) (a : Int) (ha : 0 ≤ a) : l.foldl max a = max a (l.foldl max 0) := by
  induction l generalizing a with
  | nil => simp; omega
  | cons b l ih => simp only [List.foldl_cons]; rw [ih (max a b) (by omega), ih (max 0 b) (by omega)]; omega
mutual
theorem levS_eq : ∀ e : Exp, levS e = e.lev
  | .mk op n u s args => by rw [levS, Exp.lev_eq, levsS_eq]; rfl
theorem levsS_eq : ∀ l : List Exp, levsS l = (l.map Exp.lev).foldl max 0
  | [] => by rw [levsS]; rfl
  | e :: l => by
    have := e.lev_pos
    rw [levsS, levS_eq, levsS_eq, List.map_cons, List.foldl_cons, foldl_max_cons (l.map Exp.lev) (max 0 e.lev) (by omega)]
    omega
end
/-- The same az parseX, to be computed with. -/
def parseY (s : List UInt8) : Exp × Int × Int := match lexL s with
  | .error (p, e) => (zeroE, p, e)
  | .ok l => match expP l (4 * l.length + 3) 0 0 with
    | .stop pos e => (zeroE, pos, e)
    | .ok y q => if kindAt l q ≠ 0 then (zeroE, posAt l q, 12) else if 12 < levS y then (zeroE, posAt l q, 6) else (y, 0, 0)
theorem parseX_eq (s : List UInt8) : parseX s = parseY s := by
  unfold parseX parseY
  simp only [levS_eq]
  try rfl
def ofP (s : List UInt8) (vars : List Var) : Int × Int := if (parseY s).2.2 ≠ 0 then (-1, (parseY s).2.2) else valueP [] vars (parseY s).1
attribute [local simp] HS hcons hstep evPure opd uOf putOK St.put St.at getK binD binI binS binB nilD aggD eqUs cmpK lookD lookR rangeD nextD entryD keyD valU keyU lookK mkV entD_nil lookK_entD updK_entD1 updK_entD2 updK_entD3 allUE allUE_entD makeMapD mapUpdD mapEff updK valM Key.kk shiftI arith unD convD pickD loadD cellsAt fieldAddrD fieldD indexAddrD indexD sliceD cutD lenD minmaxD nilCheckD buildD fillD cellsD isOne ones setAll mkAgg allU allocD boxD storeD St.add buildSliceD appendD rowsOf makeD setOb getK_setOb getK_del getK_cons stripL strip guardTmp entry chunks zcells valD argsV argsW argW argU1 argU0 argsU0 argsU1 calleeOf scalarD scalarU delAll effD St.effS RK_seq RK_seq_ret RK_seq_exit RK_blk RK_blk_ret RK_blk_exit RK_loop RK_loop_ret RK_loop_exit RK_done vs_seq vs_block vs_skip vs_label vs_exit vs_ret vs_cond vs_region vs_loop vs_draw vs_range vs_scope applyW mkD rdIds lentIds callOf calleeOf freeOp D.ids Op.operands Call.operands isEffOp makeIfD typeAssertD conc concs conc1 uOfV panicD IntKind.bits allU2 allU2_append List.take_of_length_le List.range_succ
attribute [local irreducible] V G H HD HD2 HD4 HD4h RetX RunK Eff CallP CallV EndOK Fun Ret FinOK LoopI LoopW EndW
theorem of_fun (s : List UInt8) (vars : List Var) : Fun Tryd.prog 23 [.u (.str s), .u (varsU vars)] (· = .tup [.u (.int .i64 (ofP s vars).1), .u (.int .i64 (ofP s vars).2)]) := by
  have h1 := parseExp_fun s
  rw [parseX_eq] at h1
  have h2 := value_fun [] vars (parseY s).1
  unfold ofP
  generalize hr : parseY s = R at *
  obtain ⟨y, p, er⟩ := R
  simp only at *
  by_cases he : er = 0
  · subst he
    simp only [letsU, varsU, eagg, List.map_nil, ne_eq, not_true_eq_false, if_false] at h1 h2 ⊢
    generalize valueP [] vars y = V at h2 ⊢
    (refine Fun.of_bodyW Tryd.func23 rfl (by simp) fun Γ hn => ?_); simp only [entry, List.zipIdx_cons, List.zipIdx_nil, List.map_cons, List.map_nil, Nat.zero_add, Tryd.ntmps23]
    repeat' (first
    | (refine H_cons ?_; simp)
    | (refine H_nil ?_; simp)
    | (refine V_sseq ?_; simp)
    | (refine V_scond ?_; simp)
    | (refine V_ret ?_; simp only [RunK])
    | (refine V_skip ?_; simp only [RunK])
    | (refine CallP.fun_ (h1) (by first | rfl | fail) (by first | assumption | (simp; done) | fail) (by first | (simp; done) | (simp; rfl) | fail) (by first | (simp; done) | fail) (fun d hd => ?_); subst hd; (try simp))
    | (refine CallP.fun_ (h2) (by first | rfl | fail) (by first | assumption | (simp; done) | fail) (by first | (simp; done) | (simp; rfl) | fail) (by first | (simp; done) | fail) (fun d hd => ?_); subst hd; (try simp))
    | fail)
    refine EndW.here ?_
    (refine EndOK.val (.inr rfl) ?_; simp [resD, oneOrTup, pureD, Tryd.results23])
  · simp only [varsU, eagg, ne_eq, he, not_false_eq_true, if_true] at h1 h2 ⊢
    (refine Fun.of_bodyW Tryd.func23 rfl (by simp) fun Γ hn => ?_); simp only [entry, List.zipIdx_cons, List.zipIdx_nil, List.map_cons, List.map_nil, Nat.zero_add, Tryd.ntmps23]
    repeat' (first
    | (refine H_cons ?_; simp [he])
    | (refine H_nil ?_; simp [he])
    | (refine V_sseq ?_; simp [he])
    | (refine V_scond ?_; simp [he])
    | (refine V_ret ?_; simp only [RunK])
    | (refine CallP.fun_ (h1) (by first | rfl | fail) (by first | assumption | (simp; done) | fail) (by first | (simp [he]; done) | (simp [he]; rfl) | fail) (by first | (simp; done) | fail) (fun d hd => ?_); subst hd; (try simp [he]))
    | fail)
    refine EndW.here ?_
    (refine EndOK.val (.inr rfl) ?_; simp [resD, oneOrTup, pureD, Tryd.results23])
def vPot : Var := ⟨[112, 111, 116], 3, 999⟩
def vY (n : Int) (u : Int) : Var := ⟨[121], u, n⟩
def vBid : Var := ⟨[98, 105, 100], 0, 10⟩
def vMem (n : Int) : Var := ⟨[109, 101, 109, 98, 101, 114, 115], 0, n⟩
def tx1 : List UInt8 := [112, 111, 116, 32, 42, 32, 53, 48, 32, 112, 101, 114, 32, 109, 105, 108, 108, 101, 32, 45, 32, 98, 105, 100, 32, 47, 32, 109, 101, 109, 98, 101, 114, 115]
def tx2 : List UInt8 := [40, 32, 48, 32, 45, 32, 55, 32, 41, 32, 47, 32, 50]
def tx3 : List UInt8 := [105, 102, 32, 109, 101, 109, 98, 101, 114, 115, 32, 61, 61, 32, 48, 32, 116, 104, 101, 110, 32, 48, 32, 99, 111, 105, 110, 115, 32, 101, 108, 115, 101, 32, 112, 111, 116, 32, 47, 32, 109, 101, 109, 98, 101, 114, 115]
def tx4 : List UInt8 := [53, 32, 99, 111, 105, 110, 115]
def tx5 : List UInt8 := [120, 32, 43, 32, 121]
def tx6 : List UInt8 := [122, 32, 43, 32, 49, 32, 99, 111, 105, 110, 115]
def tx7 : List UInt8 := [121, 32, 47, 32, 48]
def tx8 : List UInt8 := [121, 32, 42, 32, 121]
theorem pf1 : ofP tx1 [vPot, vBid, vMem 3] = (46, 0) := by kernel_rfl
theorem pf2 : ofP tx2 [] = (-4, 0) := by kernel_rfl
theorem pf3 : ofP tx3 [vMem 0, vPot] = (0, 0) := by kernel_rfl
theorem pf4 : (parseY tx4).2 = (0, 0) := by kernel_rfl
theorem pf5 : (parseY tx5).2 = (0, 0) := by kernel_rfl
theorem pf6 : (parseY tx6).2 = (0, 0) := by kernel_rfl
theorem pf7 : ofP tx7 [vY 2 3] = (0, 15) := by kernel_rfl
theorem pf8 : ofP tx8 [vY 1073741824 0] = (0, 3) := by kernel_rfl
theorem pfd : valueP [⟨[120], (parseY tx4).1⟩, ⟨[122], (parseY tx5).1⟩] [vY 2 3] (parseY tx6).1 = (8, 0) := by kernel_rfl
theorem of_at {s : List UInt8} {vars : List Var} {r : Int × Int} (h : ofP s vars = r) : Fun Tryd.prog 23 [.u (.str s), .u (.sl (vars.map fun v => [.str v.name, .int .i64 v.unit, .int .i64 v.n]))] (· = .tup [.u (.int .i64 r.1), .u (.int .i64 r.2)]) := by
  subst h
  exact of_fun s vars
theorem parse_at {s : List UInt8} (h : (parseY s).2 = (0, 0)) : Fun Tryd.prog 24 [.u (.str s)] (· = .tup [eagg (parseY s).1, .u (.int .i64 0), .u (.int .i64 0)]) := by
  have h1 := parseExp_fun s
  rw [parseX_eq, h] at h1
  exact h1
theorem small_fun : Fun Tryd.prog 9 [] (· = .u (.bool true)) := by
  have h1 := of_at pf1
  have h2 := of_at pf2
  have h3 := of_at pf3
  have h4 := parse_at pf4
  have h5 := parse_at pf5
  have h6 := parse_at pf6
  have h7 := of_at pf7
  have h8 := of_at pf8
  have h9 := value_fun [⟨[120], (parseY tx4).1⟩, ⟨[122], (parseY tx5).1⟩] [vY 2 3] (parseY tx6).1
  rw [pfd] at h9
  generalize (parseY tx4).1 = e4 at *
  generalize (parseY tx5).1 = e5 at *
  generalize (parseY tx6).1 = e6 at *
  simp only [List.map_cons, List.map_nil, letsU, varsU, eagg, vPot, vBid, vMem, vY, tx1, tx2, tx3, tx4, tx5, tx6, tx7, tx8] at h1 h2 h3 h4 h5 h6 h7 h8 h9
  (refine Fun.of_bodyW Tryd.func9 rfl (by simp) fun Γ hn => ?_); simp only [entry, List.zipIdx_cons, List.zipIdx_nil, List.map_cons, List.map_nil, Nat.zero_add, Tryd.ntmps9]
  repeat' (first
    | (refine H_cons ?_; simp)
    | (refine H_nil ?_; simp)
    | (refine V_sseq ?_; simp)
    | (refine V_ret ?_; simp only [RunK])
    | (refine CallP.fun_ (h1) (by first | rfl | fail) (by first | assumption | (simp; done) | fail) (by first | (simp; done) | (simp; rfl) | fail) (by first | (simp; done) | fail) (fun d hd => ?_); subst hd; (try simp))
    | (refine CallP.fun_ (h2) (by first | rfl | fail) (by first | assumption | (simp; done) | fail) (by first | (simp; done) | (simp; rfl) | fail) (by first | (simp; done) | fail) (fun d hd => ?_); subst hd; (try simp))
    | (refine CallP.fun_ (h3) (by first | rfl | fail) (by first | assumption | (simp; done) | fail) (by first | (simp; done) | (simp; rfl) | fail) (by first | (simp; done) | fail) (fun d hd => ?_); subst hd; (try simp))
    | (refine CallP.fun_ (h4) (by first | rfl | fail) (by first | assumption | (simp; done) | fail) (by first | (simp; done) | (simp; rfl) | fail) (by first | (simp; done) | fail) (fun d hd => ?_); subst hd; (try simp))
    | (refine CallP.fun_ (h5) (by first | rfl | fail) (by first | assumption | (simp; done) | fail) (by first | (simp; done) | (simp; rfl) | fail) (by first | (simp; done) | fail) (fun d hd => ?_); subst hd; (try simp))
    | (refine CallP.fun_ (h6) (by first | rfl | fail) (by first | assumption | (simp; done) | fail) (by first | (simp; done) | (simp; rfl) | fail) (by first | (simp; done) | fail) (fun d hd => ?_); subst hd; (try simp))
    | (refine CallP.fun_ (h7) (by first | rfl | fail) (by first | assumption | (simp; done) | fail) (by first | (simp; done) | (simp; rfl) | fail) (by first | (simp; done) | fail) (fun d hd => ?_); subst hd; (try simp))
    | (refine CallP.fun_ (h8) (by first | rfl | fail) (by first | assumption | (simp; done) | fail) (by first | (simp; done) | (simp; rfl) | fail) (by first | (simp; done) | fail) (fun d hd => ?_); subst hd; (try simp))
    | (refine CallP.fun_ (h9) (by first | rfl | fail) (by first | assumption | (simp; done) | fail) (by first | (simp; done) | (simp; rfl) | fail) (by first | (simp; done) | fail) (fun d hd => ?_); subst hd; (try simp))
    | fail)
  refine EndW.here ?_
  (refine EndOK.val (.inr rfl) ?_; simp [resD, oneOrTup, pureD, Tryd.results9])
end Go.Proofs.YtfcopibncpkdoaaDoor
namespace Go.Proofs.YtfcopibncpkdoaaDoor
open Go Go.VL Go.ChangeShapes Go.WideShapes Go.ChangeAt Go.RowKit
theorem Tryd.own : ownKnob Tryd.prog.godebug = none := by kernel_rfl
theorem Tryd.laidOut : laidOutB Tryd.prog = true := by kernel_rfl
theorem Tryd.seqs : seqAll Tryd.prog = true := by kernel_rfl
theorem int_of {u : U} (h : ArgU Tryd.prog 3 u) : ∃ n, u = .int .i64 n := by
  obtain ⟨n, h1, _⟩ := (h.one (by simp) (by simp)).of_int io3
  exact ⟨n, by simpa using h1⟩
end Go.Proofs.YtfcopibncpkdoaaDoor
namespace Go.VL
open Go
open Go.ChangeShapes Go.WideShapes Go.ChangeAt Go.WideMaps Go.WideElems Go.RowKit
theorem law_laid {H : Type} {enc : TypeId × Value → H} {C : Checked} {os : Os} {f : FuncId} {fn : Func} {s : ChangeSpec} {conds : List PathCond} {apart fresh handsOn again : Bool} {tb : TypeId} {laid : List (String × DataW Unit)}
    (own : ownKnob C.prog.godebug = none) (started : os.Started) (noInit : C.prog.inits.idxOf? f = none) (hfn : C.prog.funcs[f]? = some fn)
    (witness : ∃ (w : World) (tape : Tape) (i : Input), w.os = os ∧ (w.forCall tape i).Shaped C.prog ∧ i.vars = [] ∧ Input.okWide C.prog (w.forCall tape i) .any w.heap.size f i ∧
      ((s.pre enc C.prog fn conds apart (w.forCall tape i).memory i.args ∧ laidMetH C.prog laid (w.forCall tape i).memory) ∧ sizedMet enc C.prog fn (OpenSpec.ofChange s) apart (w.forCall tape i).memory i.args) ∧ (({} : Assume)).holds C.prog (lone (Frame.enter C.prog f i.args .normal) [] (w.forCall tape i)))
    (hl : laidOutB C.prog = true) (hseq : seqAll C.prog = true) (hpar : (fn.params.toList.all fun t => C.prog.readableRec t && decide (t < C.prog.types.size)) = true)
    (hvars : s.vars = []) (hspec : ∀ ds : List (DataW H), ds.length = fn.params.size → s.fn H ds = { results := [.lit (.bool true)], args := ds })
    (hres : fn.resultTypes = #[tb]) (htb : C.prog.underlying tb = some .bool)
    (hfun : ∀ us : List U, ArgsU C.prog fn.params.toList us → Fun C.prog f (us.map .u) (· = .u (.bool true))) (hglob : ∀ W : World, laidMetH C.prog laid W → GlobIn (wmem W)) :
    ReturnsInHanded {} C os f .any (fun w args => (s.pre enc C.prog fn conds apart w args ∧ laidMetH C.prog laid w) ∧ sizedMet enc C.prog fn (OpenSpec.ofChange s) apart w args) (s.post enc C.prog fn apart fresh handsOn again) := by
  refine returnsInHanded_of_change_and (X := fun w _ => laidMetH C.prog laid w) (fun _ _ _ hh h => h.of_heap hh) own started noInit hfn witness ?_
  intro W base args ds gs before hval hW _ _ hL _
  have hpar' : ∀ t ∈ fn.params.toList, C.prog.readableRec t = true ∧ t < C.prog.types.size := by
    intro t ht
    have := List.all_eq_true.1 hpar t ht
    simpa using this
  have hW' := hW
  obtain ⟨p, q, hA, hV, rfl, hfz, hnd⟩ := hW
  rw [hvars] at hV
  obtain ⟨rfl, rfl⟩ := trodVars_none hV
  have hlt : ∀ x ∈ p, x.block < W.heap.size := fun x hx => hW'.lt x (by simp [hx])
  obtain ⟨us, h1, h2⟩ := args_rep hseq hA (fun t ht => (hpar' t ht).2) (fun j t v ht hv => hval j t v (by simpa using ht) (by simpa using hv))
  refine (calls_of_fun (hfun us h1) (hglob W hL) h2).mono ?_
  rintro e W' ⟨rfl, hb⟩
  have hdl : ds.length = fn.params.size := by
    have : ∀ {ts : List TypeId} {vs : List Value} {ds : List (DataW H)} {p : List MemPlace}, DataW.TrodAll enc C.prog W 0 (fun _ => true) true ts vs ds p → ds.length = ts.length := by
      intro ts
      induction ts with
      | nil => intro vs ds p h; cases vs <;> cases ds <;> simp_all [DataW.TrodAll]
      | cons t ts ih =>
        intro vs ds p h
        cases vs <;> cases ds <;> simp only [DataW.TrodAll] at h
        obtain ⟨p, q, _, h2, _⟩ := h
        simp [ih h2]
    simpa using this hA
  have hs := hspec ds hdl
  refine ⟨_, rfl, post_below (pa := p) (pv := []) hW' (fun b sp hd => ?_) (fun sp hsp => ?_) (fun sp _ => ?_) rfl hb (fun j t r ht hr => ?_)⟩
  · rw [List.append_nil, hs, hres]
    exact trodAll_mk1 ⟨1, by simp [DataW.trod, Value.cells, htb]⟩
  · rw [List.append_nil, hs]
    exact trodAll_below hl hb hpar' hA hlt fun x hx => hsp x (by simp [hx])
  · rw [List.append_nil, hs, hvars]
    try rfl
  · rw [hres] at ht hr
    cases j with
    | zero =>
      simp at ht
      subst ht
      simp [Value.resultList] at hr
      subst hr
      simp [Value.okWide, htb, Cell.okWide, Cell.ok]
    | succ j => simp at ht
/-- The cells of a listed array of strings. -/
theorem cells_strings {P : Program} {w : World} {n : String} {g : Nat} {t e : TypeId} {cs : Array Value} {L : List (List UInt8)} {fuel : Nat} {H : Type} {enc : TypeId × Value → H} {base : Nat} {spare : Nat → Bool} {held : Bool} {q : List MemPlace}
    (hg : P.globalNamed n = some g) (hv : w.var? P n = some cs) (ht : P.underlying t = some (.array L.length e)) (he : P.underlying e = some .string) (hc : P.cellsOf e = 1)
    (hd : DataW.trod enc P w base spare held fuel t cs.toList = some (.agg (L.map fun b => .lit (.string b)), q)) : ∀ (j : Nat) (b : List UInt8), L[j]? = some b → w.cell? ⟨g, j, none⟩ = some (.string ⟨b.toArray⟩) := by
  intro j b hj
  obtain ⟨xs, m1, rfl, hx1, hlen, hn3, hel⟩ := DataW.trod_array ht hd
  have hjl := (List.getElem?_eq_some_iff.1 hj).1
  have h := hel j hjl
  rw [hc, Nat.mul_one] at h
  simp only [Prod.mk.injEq, DataW.agg.injEq] at hx1
  obtain ⟨x, hx⟩ : ∃ x, xs[j]? = some x := ⟨_, List.getElem?_eq_getElem (by omega)⟩
  rw [hx] at h
  obtain ⟨s, h1, h2, _⟩ := DataW.trod_string he h
  have h3 : (L.map fun b => (DataW.lit (.string b) : DataW H))[j]? = (xs.map (·.1))[j]? := by rw [hx1.1]
  rw [List.getElem?_map, List.getElem?_map, hj, hx, h2] at h3
  simp only [Option.map_some, Option.some.injEq, DataW.lit.injEq, Lit.string.injEq] at h3
  have h4 : (cs.toList.drop j)[0]? = some (.string s) := by
    have : ((cs.toList.drop j).take 1)[0]? = some (.string s) := by rw [h1]; rfl
    simpa [List.getElem?_take] using this
  rw [List.getElem?_drop, Nat.add_zero] at h4
  rw [World.var?_cell hg hv j]
  rw [Array.getElem?_toList] at h4
  rw [h4, h3]
end Go.VL
namespace Go.Proofs.YtfcopibncpkdoaaDoor
open Go Go.VL
abbrev laidL : List (String × DataW Unit) := [("stokvel/lex.signs", Rows.laid_stokvel_lex_signs)]
theorem door_met (os : Os) (args : Array Value) : laidMetH Tryd.prog laidL ((World.doorLaid Tryd.prog 400 os).forCall (fun _ _ => 0) ⟨#[], args, []⟩).memory :=
  laidMetH_of_parts3 (fuel := 8) (laidMet_of_run' 8 (by kernel_rfl) (by kernel_rfl)) (by kernel_rfl) (by kernel_rfl)
def signsA : List (List UInt8) := [[61, 61], [59], [44], [61], [60], [43], [45], [42], [47], [40], [41]]
theorem glob_laid (W : World) (h : laidMetH Tryd.prog laidL W) : GlobIn (wmem W) := by
  rw [MakeChecks.laidMetH_plain _ _ _ (by kernel_rfl)] at h
  obtain ⟨ps, ⟨g0, t0, cs0, f0, p0, q0, hg0, ht0, hv0, hd0, _⟩, _⟩ := h
  obtain rfl : g0 = 0 := Option.some.inj (hg0.symm.trans (by kernel_rfl))
  have hu : Tryd.prog.underlying 159 = some (.array signsA.length 9) := by kernel_rfl
  obtain rfl : t0 = 159 := Option.some.inj (ht0.symm.trans (by kernel_rfl))
  have hc := cells_strings (L := signsA) hg0 hv0 hu (by kernel_rfl) (by kernel_rfl) hd0
  intro p hp j hj
  simp only [globs, List.mem_cons, List.not_mem_nil, or_false] at hp
  subst hp
  have hj' : j < 11 := hj
  have hlen : signsA.length = 11 := rfl
  have hs : signsA[j]? = some (signsA.getD j []) := by
    rw [List.getElem?_eq_getElem (by omega)]
    simp [show j < signsA.length by omega]
  have h2 := look_cell (hc j _ hs)
  have h3 : (Value.string ⟨(signsA.getD j []).toArray⟩) = (globs.head!.2.getD j undef) := by
    have : ∀ i, i < 11 → (Value.string ⟨(signsA.getD i []).toArray⟩) = (globs.head!.2.getD i undef) := by
      intro i hi
      match i, hi with
      | 0, _ | 1, _ | 2, _ | 3, _ | 4, _ | 5, _ | 6, _ | 7, _ | 8, _ | 9, _ | 10, _ => rfl
      | i + 11, h => omega
    exact this j hj'
  show VL.look W 0 j = some (.val (globs.head!.2.getD j undef))
  rw [← h3]
  exact h2
end Go.Proofs.YtfcopibncpkdoaaDoor
namespace Go.Proofs.YtfcopibncpkdoaaDoor
open Go Go.VL
def TM.Pure (f : TM) : Prop := ∀ t, f t = ((f []).1, t)
theorem TM.Pure.ret (x) : TM.Pure (TM.ret x) := fun t => rfl
theorem TM.Pure.bind {f : TM} {g : Int → TM} (hf : f.Pure) (hg : ∀ a, (g a).Pure) : (f.bind g).Pure := fun t => by
  unfold TM.bind
  rw [hf t, hf []]
  rcases (f []).1 with e | v
  · rfl
  · exact hg v t
/-- Names without a table. -/
def nmP (lets : List Let) (G : List UInt8 → Option Int) : Nat → List UInt8 → TM
  | 0, s => .ret (match G s with | some v => .ok v | none => .error 13)
  | n + 1, s => match G s with
    | some v => .ret (.ok v)
    | none => match lets[n]? with
      | none => .ret (.error 13)
      | some l => if l.name = s then .ret (valT (nmP lets G n) (shareP (lets.take n)) l.body []).1 else nmP lets G n s
def valX (lets : List Let) (G : List UInt8 → Option Int) (n : Nat) (e : Exp) : Except Int Int := (valT (nmP lets G n) (shareP (lets.take n)) e []).1
/-- A table that holds what the lets' bodies have. -/
def TabV (lets : List Let) (G : List UInt8 → Option Int) (t : Tab) : Prop := ∀ (i : Nat) (v e : Int), t[i]? = some (v, e, true) → ∃ l, lets[i]? = some l ∧ (v, e, true) = entX (valX lets G i l.body)
def Sm (lets : List Let) (G : List UInt8 → Option Int) (f f' : TM) : Prop := ∀ t, TabOK lets.length t → TabV lets G t → (f t).1 = (f' []).1 ∧ TabV lets G (f t).2
theorem Sm.ret {lets G x} : Sm lets G (TM.ret x) (TM.ret x) := fun t _ h => ⟨rfl, h⟩
theorem Sm.bind {lets G} {f f' : TM} {g g' : Int → TM} (hf : Sm lets G f f') (hk : TMok lets.length f) (hp : f'.Pure) (hg : ∀ a, Sm lets G (g a) (g' a)) : Sm lets G (f.bind g) (f'.bind g') := fun t h1 h2 => by
  obtain ⟨e1, v1⟩ := hf t h1 h2
  obtain ⟨k1, _, _⟩ := hk t h1
  unfold TM.bind
  rcases hft : f t with ⟨er | v, t'⟩
  · rw [hft] at e1 v1
    simp only at e1 v1
    rw [hp [], ← e1]
    exact ⟨rfl, v1⟩
  · rw [hft] at e1 v1 k1
    simp only at e1 v1 k1
    rw [hp [], ← e1]
    exact hg v t' k1 v1
end Go.Proofs.YtfcopibncpkdoaaDoor
namespace Go.Proofs.YtfcopibncpkdoaaDoor
open Go Go.VL
theorem valueP_op {vars : List Var} {op a b : Int} {x y : Exp} {e : Exp} (hop : 2 ≤ op ∧ op ≤ 9) (he : e = .mk op 0 0 [] [x, y]) (hr : rightB 12 e = true) (hv : vars.all inCB = true)
    (hx : valL [] (gF (gV vars)) 0 x [] = (.ok a, [])) (hy : valL [] (gF (gV vars)) 0 y [] = (.ok b, [])) :
    valueP [] vars e = ((entX (binX op (shareP [] x || shareP [] y) a b)).1, (entX (binX op (shareP [] x || shareP [] y) a b)).2.1) := by
  subst he
  unfold valueP
  rw [if_pos ⟨by unfold rightAll; rw [hr]; rfl, hv⟩]
  have h := valL_bin (lets := []) (G := gF (gV vars)) (n := 0) (e := .mk op 0 0 [] [x, y]) (t := []) hop rfl hx hy
  show ((entX (valL [] (gF (gV vars)) 0 _ []).1).1, (entX (valL [] (gF (gV vars)) 0 _ []).1).2.1) = _
  rw [h]
  rfl
def eA : Exp := .mk 1 0 0 [97] []
def eB : Exp := .mk 1 0 0 [98] []
def abV (a b : Int) : List Var := [⟨[97], 1, a⟩, ⟨[98], 1, b⟩]
theorem right_ab {op : Int} (hop : op = 2 ∨ op = 3 ∨ op = 5 ∨ op = 6 ∨ op = 7 ∨ op = 8 ∨ op = 9) : rightB 12 (.mk op 0 0 [] [eA, eB]) = true := by
  rcases hop with rfl | rfl | rfl | rfl | rfl | rfl | rfl <;> kernel_rfl
theorem value_ab {op a b : Int} (hop : op = 2 ∨ op = 3 ∨ op = 5 ∨ op = 6 ∨ op = 7 ∨ op = 8 ∨ op = 9) (ha : inC a) (hb : inC b) : valueP [] (abV a b) (.mk op 0 0 [] [eA, eB]) = ((entX (binX op false a b)).1, (entX (binX op false a b)).2.1) := by
  have hv : (abV a b).all inCB = true := by
    unfold inC at ha hb
    simp [abV, inCB, ha, hb]
  have hs : (shareP [] eA || shareP [] eB) = false := by kernel_rfl
  have := valueP_op (vars := abV a b) (op := op) (a := a) (b := b) (by omega) rfl (right_ab hop) hv (by rfl) (by rfl)
  rw [hs] at this
  exact this
theorem floorX_pos {a b : Int} (hb : 0 < b) : floorX a b * b ≤ a ∧ a - b < floorX a b * b := by
  have h1 := Int.tmod_add_tdiv_mul a b
  unfold floorX
  by_cases ha : a < 0
  · have h5 := Int.tmod_nonneg (a := -a) b (by omega)
    have h6 : (-a).tmod b < b := Int.tmod_lt_of_pos _ hb
    rw [Int.neg_tmod] at h5 h6
    by_cases hq : a.tdiv b * b = a
    · rw [if_neg (by simp [hq])]
      omega
    · rw [if_pos ⟨hq, by omega⟩, Int.sub_mul]
      omega
  · have h4 : 0 ≤ a.tmod b := Int.tmod_nonneg _ (by omega)
    have h2 : a.tmod b < b := Int.tmod_lt_of_pos _ hb
    rw [if_neg (by rintro ⟨_, h⟩; omega)]
    omega
theorem floorX_neg {a b : Int} (hb : b < 0) : a ≤ floorX a b * b ∧ floorX a b * b < a - b := by
  have h := floorX_pos (a := -a) (b := -b) (by omega)
  have he : floorX (-a) (-b) = floorX a b := by
    unfold floorX
    have h0 : a.tdiv b * -b = -(a.tdiv b * b) := Int.mul_neg _ _
    rw [Int.neg_tdiv_neg, h0]
    by_cases hz : a.tdiv b * b = a
    · rw [if_neg (by rintro ⟨h, _⟩; omega), if_neg (by rintro ⟨h, _⟩; omega)]
    · by_cases ha : a < 0
      · rw [if_neg (by rintro ⟨_, h⟩; omega), if_neg (by rintro ⟨_, h⟩; omega)]
      · have ha0 : a ≠ 0 := fun e => by subst e; simp at hz
        rw [if_pos ⟨by omega, by omega⟩, if_pos ⟨hz, by omega⟩]
  rw [he, Int.mul_neg] at h
  omega
theorem floorX_in {a b : Int} (ha : inC a) (hb : inC b) (h0 : b ≠ 0) : keptX (floorX a b) = .ok (floorX a b) := by
  unfold inC at ha hb
  have h : -1099511627776 ≤ floorX a b ∧ floorX a b ≤ 1099511627776 := by
    have h1 := tdiv_bound a b h0
    unfold floorX
    split
    · rename_i hh
      obtain ⟨hq, hs⟩ := hh
      by_cases hb1 : b = 1
      · subst hb1; simp at hq
      by_cases hb2 : b = -1
      · subst hb2; simp at hq
      have h2 : (a.tdiv b).natAbs ≤ a.natAbs / 2 := by
        rw [Int.natAbs_tdiv]
        exact Nat.div_le_div_left (by omega) (by omega)
      omega
    · omega
  unfold keptX
  rw [if_neg (by omega)]
def numE (n u : Int) : Exp := if 0 ≤ n then .mk 0 n u [] [] else .mk 3 0 0 [] [.mk 0 0 u [] [], .mk 0 (-n) u [] []]
attribute [local simp] HS hcons hstep evPure opd uOf putOK St.put St.at getK binD binI binS binB nilD aggD eqUs cmpK lookD lookR rangeD nextD entryD keyD valU keyU lookK mkV entD_nil lookK_entD updK_entD1 updK_entD2 updK_entD3 allUE allUE_entD makeMapD mapUpdD mapEff updK valM Key.kk shiftI arith unD convD pickD loadD cellsAt fieldAddrD fieldD indexAddrD indexD sliceD cutD lenD minmaxD nilCheckD buildD fillD cellsD isOne ones setAll mkAgg allU allocD boxD storeD St.add buildSliceD appendD rowsOf makeD setOb getK_setOb getK_del getK_cons stripL strip guardTmp entry chunks zcells valD argsV argsW argW argU1 argU0 argsU0 argsU1 calleeOf scalarD scalarU delAll effD St.effS RK_seq RK_seq_ret RK_seq_exit RK_blk RK_blk_ret RK_blk_exit RK_loop RK_loop_ret RK_loop_exit RK_done vs_seq vs_block vs_skip vs_label vs_exit vs_ret vs_cond vs_region vs_loop vs_draw vs_range vs_scope applyW mkD rdIds lentIds callOf calleeOf freeOp D.ids Op.operands Call.operands isEffOp makeIfD typeAssertD conc concs conc1 uOfV panicD IntKind.bits allU2 allU2_append List.take_of_length_le List.range_succ
attribute [local irreducible] V G H HD HD2 HD4 HD4h RetX RunK Eff CallP CallV EndOK Fun Ret FinOK LoopI LoopW EndW
theorem litnum_fun (n u : Int) (hn0 : -1000000000000 ≤ n) : Fun Tryd.prog 16 [.u (.int .i64 n), .u (.int .i64 u)] (· = eagg (numE n u)) := by
  unfold numE
  by_cases h : 0 ≤ n
  · rw [if_pos h]
    (refine Fun.of_bodyW Tryd.func16 rfl (by simp) fun Γ hn => ?_); simp only [entry, List.zipIdx_cons, List.zipIdx_nil, List.map_cons, List.map_nil, Nat.zero_add, Tryd.ntmps16]
    repeat' (first
    | (refine H_cons ?_; simp [h])
    | (refine H_nil ?_; simp [h])
    | (refine V_sseq ?_; simp [h])
    | (refine V_scond ?_; simp [h])
    | (refine V_ret ?_; simp only [RunK])
    | fail)
    refine EndW.norm (EndW.here ?_)
    (refine EndOK.val (.inr rfl) ?_; simp [resD, oneOrTup, pureD, Tryd.results16, frz_obs, frz_env, norm_obs, norm_env, frz, frzOb, frzS, fv, fzVec, fzMap, fzBox, frzObS, frz_entD, frz_rowsD, normD, normU, norm1, normOb])
    simp [eagg, Exp.op, Exp.n, Exp.unit, Exp.s, Exp.args]
  · rw [if_neg h]
    (refine Fun.of_bodyW Tryd.func16 rfl (by simp) fun Γ hn => ?_); simp only [entry, List.zipIdx_cons, List.zipIdx_nil, List.map_cons, List.map_nil, Nat.zero_add, Tryd.ntmps16]
    repeat' (first
    | (refine H_cons ?_; simp [h])
    | (refine H_nil ?_; simp [h])
    | (refine ⟨by omega, ?_⟩)
    | (refine V_sseq ?_; simp [h])
    | (refine V_scond ?_; simp [h])
    | (refine V_ret ?_; simp only [RunK])
    | (refine V_skip ?_; simp only [RunK])
    | fail)
    refine EndW.wk _ (Wk.normV _) ?_
    simp [St.normV, normVOb, normD, normU, norm1]
    (refine EndW.frzN 1 ?_; simp [frzN, frz1, frz_env, frz_obs, St.frz, St.frzS, frzS, fv, fzVec, fzMap, fzBox, frzObS, frz_entD, frz_rowsD, del, frz, frzOb])
    refine EndW.norm (EndW.here ?_)
    (refine EndOK.val (.inr rfl) ?_; simp [resD, oneOrTup, pureD, Tryd.results16, frz_obs, frz_env, norm_obs, norm_env, frz, frzOb, frzS, fv, fzVec, fzMap, fzBox, frzObS, frz_entD, frz_rowsD, normD, normU, norm1, normOb])
    simp [eagg, Exp.op, Exp.n, Exp.unit, Exp.s, Exp.args, Exp.row]
theorem value_at {vars : List Var} {e : Exp} {r : Int × Int} (h : valueP [] vars e = r) : Fun Tryd.prog 13 [.u (letsU []), .u (varsU vars), eagg e] (· = .tup [.u (.int .i64 r.1), .u (.int .i64 r.2)]) := by
  subst h
  exact value_fun [] vars e
theorem truthX_one (b : Bool) : decide (truthX b = 1) = b := by cases b <;> rfl
theorem truthX_sq (b : Bool) : truthX b * truthX b = truthX b := by cases b <;> rfl
end Go.Proofs.YtfcopibncpkdoaaDoor
