/- Texts joined by a program of mine: Ek El Em En Eo Ep Er Es Et Fi Fn Fp Fu Fv Ft Fs Fy Fz. -/
import Derived.Test.YtfcopibncpkdoaaDoorK5
set_option linter.all false
set_option maxRecDepth 100000
set_option maxHeartbeats 8000000
namespace Go.Proofs.YtfcopibncpkdoaaDoor
open Go Go.VL
attribute [local simp] HS hcons hstep evPure opd uOf putOK St.put St.at getK binD binI binS binB nilD aggD eqUs cmpK lookD lookR rangeD Go.VL.nextD entryD keyD valU keyU lookK mkV entD_nil lookK_entD updK_entD1 updK_entD3 allUE allUE_entD makeMapD mapUpdD mapEff updK valM Key.kk shiftI arith unD convD pickD loadD cellsAt fieldAddrD fieldD indexAddrD indexD sliceD cutD lenD minmaxD nilCheckD buildD fillD cellsD isOne ones setAll mkAgg allU allocD boxD storeD St.add buildSliceD appendD rowsOf makeD setOb getK_setOb getK_del getK_cons stripL strip guardTmp entry chunks zcells valD argsV argsW argW argU1 argU0 argsU0 argsU1 calleeOf scalarD scalarU delAll effD St.effS RK_seq RK_seq_ret RK_seq_exit RK_blk RK_blk_ret RK_blk_exit RK_loop RK_loop_ret RK_loop_exit RK_done vs_seq vs_block vs_cond vs_region vs_loop vs_draw applyW mkD rdIds lentIds callOf calleeOf freeOp D.ids Op.operands Call.operands isEffOp makeIfD typeAssertD conc concs conc1 uOfV panicD IntKind.bits allU2 allU2_append List.take_of_length_le List.range_succ
attribute [local irreducible] V G H HD HD2 HD4 HD4h RetX RunK Eff CallP CallV EndOK Fun Ret FinOK LoopI LoopW EndW
theorem primary_name {l : List Tok} (hl : TokOK l) {f p : Nat} {t : Tok} (ht : l[p]? = some t) (hk : ¬ t.kind = 2) (h1 : isB l p [116, 114, 117, 101] = false) (h2 : isB l p [102, 97, 108, 115, 101] = false)
  (h3 : isB l p [109, 105, 110] = false) (h4 : isB l p [109, 97, 120] = false) (h5 : isB l p [40] = false) {i nx : Nat} (hi : i < nx) :
  RetX Tryd.prog 98 [.ptr i 0] [(i, pOb l p)] nx (PPost l i nx expD (primaryP l (f + 1) p)) := by
 have hne := ne_facts hi
 have hp := (List.getElem?_eq_some_iff.1 ht).1
 have hnx := pnext_fun l p t ht hl.len
 have hll := hl.len
 rw [primaryP, ht]
 have hh1 := fun nx' (h : nx ≤ nx') => has_ret l p [116, 114, 117, 101] i nx' (by omega) hp hl.len
 have hh2 := fun nx' (h : nx ≤ nx') => has_ret l p [102, 97, 108, 115, 101] i nx' (by omega) hp hl.len
 have hm1 := is_fun l p [109, 105, 110] hp hl.len
 have hm2 := is_fun l p [109, 97, 120] hp hl.len
 have hh3 := fun nx' (h : nx ≤ nx') => has_ret l p [40] i nx' (by omega) hp hl.len
 have hnm := name_fun t.text
 have hc1 := fun nx' (h : nx ≤ nx') => check_ok l p 12 i nx' (by omega)
 have hc2 := fun nx' (h : nx ≤ nx') => check_pan l p t 12 i nx' (by omega) ht hl.len
 simp only [hk, h1, h2, h3, h4, h5, if_false, if_true, Bool.false_eq_true, or_self] at hh1 hh2 hm1 hm2 hh3 ⊢
 by_cases hw : t.kind = 1
 ·cases hb : nameB t.text with
  | true =>
   simp only [hb, hw, and_self, if_true] at hnm ⊢
   (refine RetX.of_bodyW Tryd.func98 rfl (by simp) fun Γ hn hpan => ?_); simp only [entry, List.zipIdx_cons, List.zipIdx_nil, List.map_cons, List.map_nil, Nat.zero_add, Tryd.ntmps98]
   repeat' (first
  | (refine H_cons ?_; simp [hne, hk, hw, del, Nat.add_assoc])
  | (refine H_nil ?_; simp [hne, hk, hw, del, Nat.add_assoc])
  | (refine ⟨by omega, ?_⟩)
  | (refine V_sseq ?_; simp [hne, hk, hw, del, Nat.add_assoc])
  | (refine V_scond ?_; simp [hne, hk, hw, del, Nat.add_assoc])
  | (refine V_ret ?_; simp only [RunK])
  | (refine V_skip ?_; simp only [RunK])
  | (refine CallP.fun_ (hnx) (by first | rfl | fail) (by first | assumption | (simp; done) | fail) (by first | (simp [hne, hk, hw, del, Nat.add_assoc]; done) | (simp [hne, hk, hw, del, Nat.add_assoc]; rfl) | fail) (by first | (simp; done) | fail) (fun d hd => ?_); subst hd; (try simp [hne, hk, hw, del, Nat.add_assoc]))
  | (refine CallP.fun_ (hm1) (by first | rfl | fail) (by first | assumption | (simp; done) | fail) (by first | (simp [hne, hk, hw, del, Nat.add_assoc]; done) | (simp [hne, hk, hw, del, Nat.add_assoc]; rfl) | fail) (by first | (simp; done) | fail) (fun d hd => ?_); subst hd; (try simp [hne, hk, hw, del, Nat.add_assoc]))
  | (refine CallP.fun_ (hm2) (by first | rfl | fail) (by first | assumption | (simp; done) | fail) (by first | (simp [hne, hk, hw, del, Nat.add_assoc]; done) | (simp [hne, hk, hw, del, Nat.add_assoc]; rfl) | fail) (by first | (simp; done) | fail) (fun d hd => ?_); subst hd; (try simp [hne, hk, hw, del, Nat.add_assoc]))
  | (refine CallP.fun_ (hnm) (by first | rfl | fail) (by first | assumption | (simp; done) | fail) (by first | (simp [hne, hk, hw, del, Nat.add_assoc]; done) | (simp [hne, hk, hw, del, Nat.add_assoc]; rfl) | fail) (by first | (simp; done) | fail) (fun d hd => ?_); subst hd; (try simp [hne, hk, hw, del, Nat.add_assoc]))
  | (refine CallP.ok1 (hh1 _ (by first | omega | (simp; done) | (simp; omega) | fail)) (by first | (simp [hne, hk, hw, del, Nat.add_assoc, getK_cons, getK, getK_append, getK_del]; done) | fail) (by rfl) (by first | assumption | (simp; done) | fail) (by rfl) (by simp) ?_; (try simp [hne, hk, hw, del, Nat.add_assoc]))
  | (refine CallP.ok1 (hh2 _ (by first | omega | (simp; done) | (simp; omega) | fail)) (by first | (simp [hne, hk, hw, del, Nat.add_assoc, getK_cons, getK, getK_append, getK_del]; done) | fail) (by rfl) (by first | assumption | (simp; done) | fail) (by rfl) (by simp) ?_; (try simp [hne, hk, hw, del, Nat.add_assoc]))
  | (refine CallP.ok1 (hh3 _ (by first | omega | (simp; done) | (simp; omega) | fail)) (by first | (simp [hne, hk, hw, del, Nat.add_assoc, getK_cons, getK, getK_append, getK_del]; done) | fail) (by rfl) (by first | assumption | (simp; done) | fail) (by rfl) (by simp) ?_; (try simp [hne, hk, hw, del, Nat.add_assoc]))
  | (refine CallP.ok1 (hc1 _ (by first | omega | (simp; done) | (simp; omega) | fail)) (by first | (simp [hne, hk, hw, del, Nat.add_assoc, getK_cons, getK, getK_append, getK_del]; done) | fail) (by rfl) (by first | assumption | (simp; done) | fail) (by rfl) (by simp) ?_; (try simp [hne, hk, hw, del, Nat.add_assoc]))
  | fail)
   refine EndW.norm ?_
   simp [St.norm, normOb, normD, normU, norm1, hne]
   (refine EndW.here ?_; (first | (refine EndOK.fin (.inr rfl) ?_) | (refine EndOK.fin (.inl rfl) ?_)); simp [resD, oneOrTup, Tryd.results98, hne, hi]; refine FinOK.cut [(i, pOb l (p + 1))] (nx) (by simp [getK_cons, getK, getK_append, getK_del, Ob.under, D.under, under_rowsD, under_entD, hne, hi] <;> omega) (by simp [D.under]) (by simp [hn]) ?_; try simp)
   exact PPost.at_ok rfl (by simp [Exp.row]) rfl
  | false =>
   simp only [hb, hw, Bool.false_eq_true, and_false, if_false] at hnm ⊢
   (refine RetX.of_bodyW Tryd.func98 rfl (by simp) fun Γ hn hpan => ?_); simp only [entry, List.zipIdx_cons, List.zipIdx_nil, List.map_cons, List.map_nil, Nat.zero_add, Tryd.ntmps98]
   repeat' (first
  | (refine H_cons ?_; simp [hne, hk, hw, del, Nat.add_assoc])
  | (refine H_nil ?_; simp [hne, hk, hw, del, Nat.add_assoc])
  | (refine V_sseq ?_; simp [hne, hk, hw, del, Nat.add_assoc])
  | (refine V_scond ?_; simp [hne, hk, hw, del, Nat.add_assoc])
  | (refine V_skip ?_; simp only [RunK])
  | (refine CallP.fun_ (hnx) (by first | rfl | fail) (by first | assumption | (simp; done) | fail) (by first | (simp [hne, hk, hw, del, Nat.add_assoc]; done) | (simp [hne, hk, hw, del, Nat.add_assoc]; rfl) | fail) (by first | (simp; done) | fail) (fun d hd => ?_); subst hd; (try simp [hne, hk, hw, del, Nat.add_assoc]))
  | (refine CallP.fun_ (hm1) (by first | rfl | fail) (by first | assumption | (simp; done) | fail) (by first | (simp [hne, hk, hw, del, Nat.add_assoc]; done) | (simp [hne, hk, hw, del, Nat.add_assoc]; rfl) | fail) (by first | (simp; done) | fail) (fun d hd => ?_); subst hd; (try simp [hne, hk, hw, del, Nat.add_assoc]))
  | (refine CallP.fun_ (hm2) (by first | rfl | fail) (by first | assumption | (simp; done) | fail) (by first | (simp [hne, hk, hw, del, Nat.add_assoc]; done) | (simp [hne, hk, hw, del, Nat.add_assoc]; rfl) | fail) (by first | (simp; done) | fail) (fun d hd => ?_); subst hd; (try simp [hne, hk, hw, del, Nat.add_assoc]))
  | (refine CallP.fun_ (hnm) (by first | rfl | fail) (by first | assumption | (simp; done) | fail) (by first | (simp [hne, hk, hw, del, Nat.add_assoc]; done) | (simp [hne, hk, hw, del, Nat.add_assoc]; rfl) | fail) (by first | (simp; done) | fail) (fun d hd => ?_); subst hd; (try simp [hne, hk, hw, del, Nat.add_assoc]))
  | (refine CallP.ok1 (hh1 _ (by first | omega | (simp; done) | (simp; omega) | fail)) (by first | (simp [hne, hk, hw, del, Nat.add_assoc, getK_cons, getK, getK_append, getK_del]; done) | fail) (by rfl) (by first | assumption | (simp; done) | fail) (by rfl) (by simp) ?_; (try simp [hne, hk, hw, del, Nat.add_assoc]))
  | (refine CallP.ok1 (hh2 _ (by first | omega | (simp; done) | (simp; omega) | fail)) (by first | (simp [hne, hk, hw, del, Nat.add_assoc, getK_cons, getK, getK_append, getK_del]; done) | fail) (by rfl) (by first | assumption | (simp; done) | fail) (by rfl) (by simp) ?_; (try simp [hne, hk, hw, del, Nat.add_assoc]))
  | (refine CallP.ok1 (hh3 _ (by first | omega | (simp; done) | (simp; omega) | fail)) (by first | (simp [hne, hk, hw, del, Nat.add_assoc, getK_cons, getK, getK_append, getK_del]; done) | fail) (by rfl) (by first | assumption | (simp; done) | fail) (by rfl) (by simp) ?_; (try simp [hne, hk, hw, del, Nat.add_assoc]))
  | (refine CallP.pan1 (hc2 _ (by first | omega | (simp; done) | (simp; omega) | fail)) (by first | (simp [hne, hk, hw, del, Nat.add_assoc, getK_cons, getK, getK_append, getK_del]; done) | fail) (by rfl) (by first | assumption | (simp; done) | fail) (by rfl) (by simp) ?_; rintro ob' ⟨q', rfl⟩; refine ⟨_, Wk.refl _, ?_⟩)
  | fail)
   (refine hpan _ _ ⟨{ n := _, env := [], obs := [(i, pOb l q')], next := nx }, (Wk.cut rfl (by simp [hn]) (by simp [wkO, getK_cons, getK, getK_append, getK_del, Ob.under, D.under, under_rowsD, under_entD, hi, hne, getK_append, getK_del, getK_cons, getK]) (by simp [wkU, keepE, getK_cons, getK, D.under, hi, hne, getK_append, getK_del, getK_cons, getK]) (by simp [wkE, keepE, getK_cons, getK, hi, hne, getK_append, getK_del, getK_cons, getK])), by simp [hn], ?_⟩; try simp)
   exact PPost.at_stop rfl
 ·simp only [hw, false_and, if_false]
  (refine RetX.of_bodyW Tryd.func98 rfl (by simp) fun Γ hn hpan => ?_); simp only [entry, List.zipIdx_cons, List.zipIdx_nil, List.map_cons, List.map_nil, Nat.zero_add, Tryd.ntmps98]
  repeat' (first
  | (refine H_cons ?_; simp [hne, hk, hw, del, Nat.add_assoc])
  | (refine H_nil ?_; simp [hne, hk, hw, del, Nat.add_assoc])
  | (refine V_sseq ?_; simp [hne, hk, hw, del, Nat.add_assoc])
  | (refine V_scond ?_; simp [hne, hk, hw, del, Nat.add_assoc])
  | (refine V_skip ?_; simp only [RunK])
  | (refine CallP.fun_ (hnx) (by first | rfl | fail) (by first | assumption | (simp; done) | fail) (by first | (simp [hne, hk, hw, del, Nat.add_assoc]; done) | (simp [hne, hk, hw, del, Nat.add_assoc]; rfl) | fail) (by first | (simp; done) | fail) (fun d hd => ?_); subst hd; (try simp [hne, hk, hw, del, Nat.add_assoc]))
  | (refine CallP.fun_ (hm1) (by first | rfl | fail) (by first | assumption | (simp; done) | fail) (by first | (simp [hne, hk, hw, del, Nat.add_assoc]; done) | (simp [hne, hk, hw, del, Nat.add_assoc]; rfl) | fail) (by first | (simp; done) | fail) (fun d hd => ?_); subst hd; (try simp [hne, hk, hw, del, Nat.add_assoc]))
  | (refine CallP.fun_ (hm2) (by first | rfl | fail) (by first | assumption | (simp; done) | fail) (by first | (simp [hne, hk, hw, del, Nat.add_assoc]; done) | (simp [hne, hk, hw, del, Nat.add_assoc]; rfl) | fail) (by first | (simp; done) | fail) (fun d hd => ?_); subst hd; (try simp [hne, hk, hw, del, Nat.add_assoc]))
  | (refine CallP.ok1 (hh1 _ (by first | omega | (simp; done) | (simp; omega) | fail)) (by first | (simp [hne, hk, hw, del, Nat.add_assoc, getK_cons, getK, getK_append, getK_del]; done) | fail) (by rfl) (by first | assumption | (simp; done) | fail) (by rfl) (by simp) ?_; (try simp [hne, hk, hw, del, Nat.add_assoc]))
  | (refine CallP.ok1 (hh2 _ (by first | omega | (simp; done) | (simp; omega) | fail)) (by first | (simp [hne, hk, hw, del, Nat.add_assoc, getK_cons, getK, getK_append, getK_del]; done) | fail) (by rfl) (by first | assumption | (simp; done) | fail) (by rfl) (by simp) ?_; (try simp [hne, hk, hw, del, Nat.add_assoc]))
  | (refine CallP.ok1 (hh3 _ (by first | omega | (simp; done) | (simp; omega) | fail)) (by first | (simp [hne, hk, hw, del, Nat.add_assoc, getK_cons, getK, getK_append, getK_del]; done) | fail) (by rfl) (by first | assumption | (simp; done) | fail) (by rfl) (by simp) ?_; (try simp [hne, hk, hw, del, Nat.add_assoc]))
  | (refine CallP.pan1 (hc2 _ (by first | omega | (simp; done) | (simp; omega) | fail)) (by first | (simp [hne, hk, hw, del, Nat.add_assoc, getK_cons, getK, getK_append, getK_del]; done) | fail) (by rfl) (by first | assumption | (simp; done) | fail) (by rfl) (by simp) ?_; rintro ob' ⟨q', rfl⟩; refine ⟨_, Wk.refl _, ?_⟩)
  | fail)
  (refine hpan _ _ ⟨{ n := _, env := [], obs := [(i, pOb l q')], next := nx }, (Wk.cut rfl (by simp [hn]) (by simp [wkO, getK_cons, getK, getK_append, getK_del, Ob.under, D.under, under_rowsD, under_entD, hi, hne, getK_append, getK_del, getK_cons, getK]) (by simp [wkU, keepE, getK_cons, getK, D.under, hi, hne, getK_append, getK_del, getK_cons, getK]) (by simp [wkE, keepE, getK_cons, getK, hi, hne, getK_append, getK_del, getK_cons, getK])), by simp [hn], ?_⟩; try simp)
  exact PPost.at_stop rfl
theorem isB_text {l : List Tok} {p : Nat} {w : List UInt8} {t : Tok} (ht : l[p]? = some t) (h : isB l p w = true) : t.text = w := by
 unfold isB at h
 rw [ht] at h
 simp only [Bool.and_eq_true, decide_eq_true_eq] at h
 exact h.2
theorem primary_step {l : List Tok} (hl : TokOK l) {f : Nat} (hE : ExpOK l f) : PrimOK l (f + 1) := by
 intro p i nx hi hp hf
 obtain ⟨t, ht⟩ : ∃ t, l[p]? = some t := ⟨_, List.getElem?_eq_getElem hp⟩
 by_cases hk : t.kind = 2
 ·exact primary_num hl ht hk hi
 cases h1 : isB l p [116, 114, 117, 101] with
 | true => exact primary_true hl ht hk h1 hi
 | false =>
 cases h2 : isB l p [102, 97, 108, 115, 101] with
 | true => exact primary_false hl ht hk h1 h2 hi
 | false =>
 cases h3 : isB l p [109, 105, 110] with
 | true =>
  cases h4 : isB l p [109, 97, 120] with
  | true => exact absurd ((isB_text ht h3).symm.trans (isB_text ht h4)) (by decide)
  | false => exact primary_min hl hE (by omega) ht hk h1 h2 h3 h4 hi
 | false =>
 cases h4 : isB l p [109, 97, 120] with
 | true => exact primary_max hl hE (by omega) ht hk h1 h2 h3 h4 hi
 | false =>
 cases h5 : isB l p [40] with
 | true => exact primary_paren hl hE (by omega) ht hk h1 h2 h3 h4 h5 hi
 | false => exact primary_name hl ht hk h1 h2 h3 h4 h5 hi
theorem prefix_if {l : List Tok} (hl : TokOK l) {f p : Nat} {form : Int} (hE : ExpOK l f) (hp : p < l.length) (hf : 4 * (l.length - p) + 1 ≤ f)
  (hf0 : form = 0) (h1 : isB l p [105, 102] = true) {i nx : Nat} (hi : i < nx) :
  RetX Tryd.prog 67 [.ptr i 0, intD form] [(i, pOb l p)] nx (PPost l i nx pairD (prefixP l (f + 1) p form)) := by
 have hne := ne_facts hi
 have hll := hl.len
 rw [prefixP]
 have hp2 := isB_lt hl h1
 subst hf0
 have hf0 : (0 : Int) = 0 := rfl
 have hf3 : (0 : Int) ≤ 3 := by omega
 have hh1 := fun nx' (h : nx ≤ nx') => has_ret l p [105, 102] i nx' (by omega) hp hl.len
 simp only [h1, if_true] at hh1
 rw [if_pos ⟨rfl, h1⟩]
 have ha := fun nx' (h : nx ≤ nx') => hE (p + 1) 0 i nx' (by omega) hp2 (by omega) (by omega) (by omega)
 cases hr0 : expP l f (p + 1) 0 with
 | stop pos e =>
  simp only [hr0] at ha
  (refine RetX.of_bodyW Tryd.func67 rfl (by simp) fun Γ hn hpan => ?_); simp only [entry, List.zipIdx_cons, List.zipIdx_nil, List.map_cons, List.map_nil, Nat.zero_add, Tryd.ntmps67]
  repeat' (first
  | (refine H_cons ?_; simp [hne, hf0, hf3, del, Nat.add_assoc])
  | (refine H_nil ?_; simp [hne, hf0, hf3, del, Nat.add_assoc])
  | (refine V_sseq ?_; simp [hne, hf0, hf3, del, Nat.add_assoc])
  | (refine V_scond ?_; simp [hne, hf0, hf3, del, Nat.add_assoc])
  | (refine CallP.ok1 (hh1 _ (by first | omega | (simp; done) | (simp; omega) | fail)) (by first | (simp [hne, hf0, hf3, del, Nat.add_assoc, getK_cons, getK, getK_append, getK_del]; done) | fail) (by rfl) (by first | assumption | (simp; done) | fail) (by rfl) (by simp) ?_; (try simp [hne, hf0, hf3, del, Nat.add_assoc]))
  | (refine CallP.pan1 (ha _ (by first | omega | (simp; done) | (simp; omega) | fail)) (by first | (simp [hne, hf0, hf3, del, Nat.add_assoc, getK_cons, getK, getK_append, getK_del]; done) | fail) (by rfl) (by first | assumption | (simp; done) | fail) (by rfl) (by simp) ?_; rintro ob' ⟨q', rfl⟩; refine ⟨_, Wk.refl _, ?_⟩)
  | fail)
  (refine hpan _ _ ⟨{ n := _, env := [], obs := [(i, pOb l q')], next := nx }, (Wk.cut rfl (by simp [hn]) (by simp [wkO, getK_cons, getK, getK_append, getK_del, Ob.under, D.under, under_rowsD, under_entD, hi, hne, getK_append, getK_del, getK_cons, getK]) (by simp [wkU, keepE, getK_cons, getK, D.under, hi, hne, getK_append, getK_del, getK_cons, getK]) (by simp [wkE, keepE, getK_cons, getK, hi, hne, getK_append, getK_del, getK_cons, getK])), by simp [hn], ?_⟩; try simp)
  exact PPost.at_stop (by simp [PR.bind, *])
 | ok v0 q0 =>
  have ha := fun nx' h => exp_ok (ha nx' h) hr0
  obtain ⟨g0a, g0b⟩ := (parse_le hl f).1 _ _ _ _ hr0 hp2
  have hw1 := fun nx' (h : nx ≤ nx') => want1 hl [116, 104, 101, 110] (q := q0) (i := i) (nx := nx') (by omega) g0b
  cases hr1 : wantP l q0 [[116, 104, 101, 110]] with
  | stop pos e =>
   simp only [hr1] at hw1
   (refine RetX.of_bodyW Tryd.func67 rfl (by simp) fun Γ hn hpan => ?_); simp only [entry, List.zipIdx_cons, List.zipIdx_nil, List.map_cons, List.map_nil, Nat.zero_add, Tryd.ntmps67]
   repeat' (first
  | (refine H_cons ?_; simp [hne, hf0, hf3, del, Nat.add_assoc])
  | (refine H_nil ?_; simp [hne, hf0, hf3, del, Nat.add_assoc])
  | (refine V_sseq ?_; simp [hne, hf0, hf3, del, Nat.add_assoc])
  | (refine V_scond ?_; simp [hne, hf0, hf3, del, Nat.add_assoc])
  | (refine CallP.ok1 (hh1 _ (by first | omega | (simp; done) | (simp; omega) | fail)) (by first | (simp [hne, hf0, hf3, del, Nat.add_assoc, getK_cons, getK, getK_append, getK_del]; done) | fail) (by rfl) (by first | assumption | (simp; done) | fail) (by rfl) (by simp) ?_; (try simp [hne, hf0, hf3, del, Nat.add_assoc]))
  | (refine CallP.ok1 (ha _ (by first | omega | (simp; done) | (simp; omega) | fail)) (by first | (simp [hne, hf0, hf3, del, Nat.add_assoc, getK_cons, getK, getK_append, getK_del]; done) | fail) (by rfl) (by first | assumption | (simp; done) | fail) (by rfl) (by simp) ?_; (try simp [hne, hf0, hf3, del, Nat.add_assoc]))
  | (refine CallP.pan1 (hw1 _ (by first | omega | (simp; done) | (simp; omega) | fail)) (by first | (simp [hne, hf0, hf3, del, Nat.add_assoc, getK_cons, getK, getK_append, getK_del]; done) | fail) (by rfl) (by first | assumption | (simp; done) | fail) (by rfl) (by simp) ?_; rintro ob' ⟨q', rfl⟩; refine ⟨_, Wk.refl _, ?_⟩)
  | (refine CallP_frzV (by first | rfl | fail) ?_; simp [hne, hf0, hf3, del, Nat.add_assoc, frzN, frz1, frz_env, frz_obs, St.frz, St.frzS, frzS, fv, fzVec, fzMap, fzBox, frzObS, frz_entD, frz_rowsD, del, frz, frzOb])
  | fail)
   (refine hpan _ _ ⟨{ n := _, env := [], obs := [(i, pOb l q')], next := nx }, (Wk.cut rfl (by simp [hn]) (by simp [wkO, getK_cons, getK, getK_append, getK_del, Ob.under, D.under, under_rowsD, under_entD, hi, hne, getK_append, getK_del, getK_cons, getK]) (by simp [wkU, keepE, getK_cons, getK, D.under, hi, hne, getK_append, getK_del, getK_cons, getK]) (by simp [wkE, keepE, getK_cons, getK, hi, hne, getK_append, getK_del, getK_cons, getK])), by simp [hn], ?_⟩; try simp)
   exact PPost.at_stop (by simp [PR.bind, *])
  | ok v1 q1 =>
   simp only [hr1] at hw1
   obtain ⟨g1a, g1b⟩ := wantP_le hl _ hr1 g0b
   have hb := fun nx' (h : nx ≤ nx') => hE q1 0 i nx' (by omega) g1b (by omega) (by omega) (by omega)
   cases hr2 : expP l f q1 0 with
   | stop pos e =>
    simp only [hr2] at hb
    (refine RetX.of_bodyW Tryd.func67 rfl (by simp) fun Γ hn hpan => ?_); simp only [entry, List.zipIdx_cons, List.zipIdx_nil, List.map_cons, List.map_nil, Nat.zero_add, Tryd.ntmps67]
    repeat' (first
  | (refine H_cons ?_; simp [hne, hf0, hf3, del, Nat.add_assoc])
  | (refine H_nil ?_; simp [hne, hf0, hf3, del, Nat.add_assoc])
  | (refine V_sseq ?_; simp [hne, hf0, hf3, del, Nat.add_assoc])
  | (refine V_scond ?_; simp [hne, hf0, hf3, del, Nat.add_assoc])
  | (refine CallP.ok1 (hh1 _ (by first | omega | (simp; done) | (simp; omega) | fail)) (by first | (simp [hne, hf0, hf3, del, Nat.add_assoc, getK_cons, getK, getK_append, getK_del]; done) | fail) (by rfl) (by first | assumption | (simp; done) | fail) (by rfl) (by simp) ?_; (try simp [hne, hf0, hf3, del, Nat.add_assoc]))
  | (refine CallP.ok1 (ha _ (by first | omega | (simp; done) | (simp; omega) | fail)) (by first | (simp [hne, hf0, hf3, del, Nat.add_assoc, getK_cons, getK, getK_append, getK_del]; done) | fail) (by rfl) (by first | assumption | (simp; done) | fail) (by rfl) (by simp) ?_; (try simp [hne, hf0, hf3, del, Nat.add_assoc]))
  | (refine CallP.ok1 (hw1 _ (by first | omega | (simp; done) | (simp; omega) | fail)) (by first | (simp [hne, hf0, hf3, del, Nat.add_assoc, getK_cons, getK, getK_append, getK_del]; done) | fail) (by rfl) (by first | assumption | (simp; done) | fail) (by rfl) (by simp) ?_; (try simp [hne, hf0, hf3, del, Nat.add_assoc]))
  | (refine CallP.pan1 (hb _ (by first | omega | (simp; done) | (simp; omega) | fail)) (by first | (simp [hne, hf0, hf3, del, Nat.add_assoc, getK_cons, getK, getK_append, getK_del]; done) | fail) (by rfl) (by first | assumption | (simp; done) | fail) (by rfl) (by simp) ?_; rintro ob' ⟨q', rfl⟩; refine ⟨_, Wk.refl _, ?_⟩)
  | (refine CallP_frzV (by first | rfl | fail) ?_; simp [hne, hf0, hf3, del, Nat.add_assoc, frzN, frz1, frz_env, frz_obs, St.frz, St.frzS, frzS, fv, fzVec, fzMap, fzBox, frzObS, frz_entD, frz_rowsD, del, frz, frzOb])
  | fail)
    (refine hpan _ _ ⟨{ n := _, env := [], obs := [(i, pOb l q')], next := nx }, (Wk.cut rfl (by simp [hn]) (by simp [wkO, getK_cons, getK, getK_append, getK_del, Ob.under, D.under, under_rowsD, under_entD, hi, hne, getK_append, getK_del, getK_cons, getK]) (by simp [wkU, keepE, getK_cons, getK, D.under, hi, hne, getK_append, getK_del, getK_cons, getK]) (by simp [wkE, keepE, getK_cons, getK, hi, hne, getK_append, getK_del, getK_cons, getK])), by simp [hn], ?_⟩; try simp)
    exact PPost.at_stop (by simp [PR.bind, *])
   | ok v2 q2 =>
    have hb := fun nx' h => exp_ok (hb nx' h) hr2
    obtain ⟨g2a, g2b⟩ := (parse_le hl f).1 _ _ _ _ hr2 g1b
    have hw2 := fun nx' (h : nx ≤ nx') => want1 hl [101, 108, 115, 101] (q := q2) (i := i) (nx := nx') (by omega) g2b
    cases hr3 : wantP l q2 [[101, 108, 115, 101]] with
    | stop pos e =>
     simp only [hr3] at hw2
     (refine RetX.of_bodyW Tryd.func67 rfl (by simp) fun Γ hn hpan => ?_); simp only [entry, List.zipIdx_cons, List.zipIdx_nil, List.map_cons, List.map_nil, Nat.zero_add, Tryd.ntmps67]
     repeat' (first
  | (refine H_cons ?_; simp [hne, hf0, hf3, del, Nat.add_assoc])
  | (refine H_nil ?_; simp [hne, hf0, hf3, del, Nat.add_assoc])
  | (refine V_sseq ?_; simp [hne, hf0, hf3, del, Nat.add_assoc])
  | (refine V_scond ?_; simp [hne, hf0, hf3, del, Nat.add_assoc])
  | (refine CallP.ok1 (hh1 _ (by first | omega | (simp; done) | (simp; omega) | fail)) (by first | (simp [hne, hf0, hf3, del, Nat.add_assoc, getK_cons, getK, getK_append, getK_del]; done) | fail) (by rfl) (by first | assumption | (simp; done) | fail) (by rfl) (by simp) ?_; (try simp [hne, hf0, hf3, del, Nat.add_assoc]))
  | (refine CallP.ok1 (ha _ (by first | omega | (simp; done) | (simp; omega) | fail)) (by first | (simp [hne, hf0, hf3, del, Nat.add_assoc, getK_cons, getK, getK_append, getK_del]; done) | fail) (by rfl) (by first | assumption | (simp; done) | fail) (by rfl) (by simp) ?_; (try simp [hne, hf0, hf3, del, Nat.add_assoc]))
  | (refine CallP.ok1 (hw1 _ (by first | omega | (simp; done) | (simp; omega) | fail)) (by first | (simp [hne, hf0, hf3, del, Nat.add_assoc, getK_cons, getK, getK_append, getK_del]; done) | fail) (by rfl) (by first | assumption | (simp; done) | fail) (by rfl) (by simp) ?_; (try simp [hne, hf0, hf3, del, Nat.add_assoc]))
  | (refine CallP.ok1 (hb _ (by first | omega | (simp; done) | (simp; omega) | fail)) (by first | (simp [hne, hf0, hf3, del, Nat.add_assoc, getK_cons, getK, getK_append, getK_del]; done) | fail) (by rfl) (by first | assumption | (simp; done) | fail) (by rfl) (by simp) ?_; (try simp [hne, hf0, hf3, del, Nat.add_assoc]))
  | (refine CallP.pan1 (hw2 _ (by first | omega | (simp; done) | (simp; omega) | fail)) (by first | (simp [hne, hf0, hf3, del, Nat.add_assoc, getK_cons, getK, getK_append, getK_del]; done) | fail) (by rfl) (by first | assumption | (simp; done) | fail) (by rfl) (by simp) ?_; rintro ob' ⟨q', rfl⟩; refine ⟨_, Wk.refl _, ?_⟩)
  | (refine CallP_frzV (by first | rfl | fail) ?_; simp [hne, hf0, hf3, del, Nat.add_assoc, frzN, frz1, frz_env, frz_obs, St.frz, St.frzS, frzS, fv, fzVec, fzMap, fzBox, frzObS, frz_entD, frz_rowsD, del, frz, frzOb])
  | fail)
     (refine hpan _ _ ⟨{ n := _, env := [], obs := [(i, pOb l q')], next := nx }, (Wk.cut rfl (by simp [hn]) (by simp [wkO, getK_cons, getK, getK_append, getK_del, Ob.under, D.under, under_rowsD, under_entD, hi, hne, getK_append, getK_del, getK_cons, getK]) (by simp [wkU, keepE, getK_cons, getK, D.under, hi, hne, getK_append, getK_del, getK_cons, getK]) (by simp [wkE, keepE, getK_cons, getK, hi, hne, getK_append, getK_del, getK_cons, getK])), by simp [hn], ?_⟩; try simp)
     exact PPost.at_stop (by simp [PR.bind, *])
    | ok v3 q3 =>
     simp only [hr3] at hw2
     obtain ⟨g3a, g3b⟩ := wantP_le hl _ hr3 g2b
     have hc := fun nx' (h : nx ≤ nx') => hE q3 0 i nx' (by omega) g3b (by omega) (by omega) (by omega)
     cases hr4 : expP l f q3 0 with
     | stop pos e =>
      simp only [hr4] at hc
      (refine RetX.of_bodyW Tryd.func67 rfl (by simp) fun Γ hn hpan => ?_); simp only [entry, List.zipIdx_cons, List.zipIdx_nil, List.map_cons, List.map_nil, Nat.zero_add, Tryd.ntmps67]
      repeat' (first
  | (refine HD4_pan1 (fun nx' h' => hc nx' (by simp at h'; omega)) (by first | (simp [hne, hf0, hf3, del, Nat.add_assoc, getK_cons, getK, getK_append, getK_del, getK_setOb, applyW]; done) | fail) (by rfl) (by first | assumption | simp) (by rfl) (by simp) ?_ ?_; rintro env' ob' n' hn' ⟨q', rfl⟩; refine ⟨_, Wk.refl _, ?_⟩)
  | (refine HD4_skipS rfl (by simp) ?_; simp)
  | (refine H_cons ?_; simp [hne, hf0, hf3, del, Nat.add_assoc])
  | (refine HD4_val rfl ?_; simp [hne, hf0, hf3, del, Nat.add_assoc])
  | (refine H_nil ?_; simp [hne, hf0, hf3, del, Nat.add_assoc])
  | (refine V_sseq ?_; simp [hne, hf0, hf3, del, Nat.add_assoc])
  | (refine V_scond ?_; simp [hne, hf0, hf3, del, Nat.add_assoc])
  | (refine HD4_nilS (hC _ (okP4_ren [i] nx (by simp <;> omega) (by simp <;> omega) (by apply Exists.intro; apply And.intro; (focus (repeat' (first | exact KF.nil | exact KL.nil | apply KF.cons | apply KL.cons 0 rfl | apply KL.cons 1 rfl | apply KL.cons 2 rfl | apply KL.cons 3 rfl | apply KL.cons 4 rfl | apply KL.cons 5 rfl | apply KL.cons 6 rfl | apply KL.cons 7 rfl | apply KL.cons 8 rfl | apply KL.cons 9 rfl))); kernel_rfl))) rfl; done)
  | (refine V_drawX rfl (by kernel_rfl) (by first | (simp [hn]; done) | (simp [hn]; omega) | fail) fun C k hC hk => ?_; simp [hne, hf0, hf3, del, Nat.add_assoc])
  | (refine CallP.ok1 (hh1 _ (by first | omega | (simp; done) | (simp; omega) | fail)) (by first | (simp [hne, hf0, hf3, del, Nat.add_assoc, getK_cons, getK, getK_append, getK_del]; done) | fail) (by rfl) (by first | assumption | (simp; done) | fail) (by rfl) (by simp) ?_; (try simp [hne, hf0, hf3, del, Nat.add_assoc]))
  | (refine CallP.ok1 (ha _ (by first | omega | (simp; done) | (simp; omega) | fail)) (by first | (simp [hne, hf0, hf3, del, Nat.add_assoc, getK_cons, getK, getK_append, getK_del]; done) | fail) (by rfl) (by first | assumption | (simp; done) | fail) (by rfl) (by simp) ?_; (try simp [hne, hf0, hf3, del, Nat.add_assoc]))
  | (refine CallP.ok1 (hw1 _ (by first | omega | (simp; done) | (simp; omega) | fail)) (by first | (simp [hne, hf0, hf3, del, Nat.add_assoc, getK_cons, getK, getK_append, getK_del]; done) | fail) (by rfl) (by first | assumption | (simp; done) | fail) (by rfl) (by simp) ?_; (try simp [hne, hf0, hf3, del, Nat.add_assoc]))
  | (refine CallP.ok1 (hb _ (by first | omega | (simp; done) | (simp; omega) | fail)) (by first | (simp [hne, hf0, hf3, del, Nat.add_assoc, getK_cons, getK, getK_append, getK_del]; done) | fail) (by rfl) (by first | assumption | (simp; done) | fail) (by rfl) (by simp) ?_; (try simp [hne, hf0, hf3, del, Nat.add_assoc]))
  | (refine CallP.ok1 (hw2 _ (by first | omega | (simp; done) | (simp; omega) | fail)) (by first | (simp [hne, hf0, hf3, del, Nat.add_assoc, getK_cons, getK, getK_append, getK_del]; done) | fail) (by rfl) (by first | assumption | (simp; done) | fail) (by rfl) (by simp) ?_; (try simp [hne, hf0, hf3, del, Nat.add_assoc]))
  | (refine CallP_frzV (by first | rfl | fail) ?_; simp [hne, hf0, hf3, del, Nat.add_assoc, frzN, frz1, frz_env, frz_obs, St.frz, St.frzS, frzS, fv, fzVec, fzMap, fzBox, frzObS, frz_entD, frz_rowsD, del, frz, frzOb])
  | fail)
      (refine hpan _ _ ⟨{ n := _, env := [], obs := [(i, pOb l q')], next := nx }, (Wk.cut rfl (by simp [hn]) (by simp [wkO, getK_cons, getK, getK_append, getK_del, Ob.under, D.under, under_rowsD, under_entD, hi, hne, getK_append, getK_del, getK_cons, getK]) (by simp [wkU, keepE, getK_cons, getK, D.under, hi, hne, getK_append, getK_del, getK_cons, getK]) (by simp [wkE, keepE, getK_cons, getK, hi, hne, getK_append, getK_del, getK_cons, getK])), by simp [hn], ?_⟩; try simp)
      exact PPost.at_stop (by simp [PR.bind, *])
     | ok v4 q4 =>
      have hc := fun nx' h => exp_ok (hc nx' h) hr4
      obtain ⟨g4a, g4b⟩ := (parse_le hl f).1 _ _ _ _ hr4 g3b
      (refine RetX.of_bodyW Tryd.func67 rfl (by simp) fun Γ hn hpan => ?_); simp only [entry, List.zipIdx_cons, List.zipIdx_nil, List.map_cons, List.map_nil, Nat.zero_add, Tryd.ntmps67]
      repeat' (first
  | (refine HD4_ok1 (fun nx' h' => hc nx' (by simp at h'; omega)) (by first | (simp [hne, hf0, hf3, del, Nat.add_assoc, getK_cons, getK, getK_append, getK_del, getK_setOb, applyW]; done) | fail) (by rfl) (by first | assumption | simp) (by rfl) (by simp [D.under, Ob.under]) (by simp) ?_; (try simp [hne, hf0, hf3, del, Nat.add_assoc]))
  | (refine H_cons ?_; simp [hne, hf0, hf3, del, Nat.add_assoc])
  | (refine HD4_val rfl ?_; simp [hne, hf0, hf3, del, Nat.add_assoc])
  | (refine HD4_chg rfl ?_; simp [hne, hf0, hf3, del, Nat.add_assoc])
  | (refine H_nil ?_; simp [hne, hf0, hf3, del, Nat.add_assoc])
  | (refine V_sseq ?_; simp [hne, hf0, hf3, del, Nat.add_assoc])
  | (refine V_scond ?_; simp [hne, hf0, hf3, del, Nat.add_assoc])
  | (refine HD4_nil (hC _ (okP4_ren [i] nx (by simp <;> omega) (by simp <;> omega) (by apply Exists.intro; apply And.intro; (focus (repeat' (first | exact KF.nil | exact KL.nil | apply KF.cons | apply KL.cons 0 rfl | apply KL.cons 1 rfl | apply KL.cons 2 rfl | apply KL.cons 3 rfl | apply KL.cons 4 rfl | apply KL.cons 5 rfl | apply KL.cons 6 rfl | apply KL.cons 7 rfl | apply KL.cons 8 rfl | apply KL.cons 9 rfl))); kernel_rfl))) (hk _ ?_); clear hC hk C k; simp only [RunK])
  | (refine V_drawX rfl (by kernel_rfl) (by first | (simp [hn]; done) | (simp [hn]; omega) | fail) fun C k hC hk => ?_; simp [hne, hf0, hf3, del, Nat.add_assoc])
  | (refine V_ret ?_; simp only [RunK])
  | (refine CallP.ok1 (hh1 _ (by first | omega | (simp; done) | (simp; omega) | fail)) (by first | (simp [hne, hf0, hf3, del, Nat.add_assoc, getK_cons, getK, getK_append, getK_del]; done) | fail) (by rfl) (by first | assumption | (simp; done) | fail) (by rfl) (by simp) ?_; (try simp [hne, hf0, hf3, del, Nat.add_assoc]))
  | (refine CallP.ok1 (ha _ (by first | omega | (simp; done) | (simp; omega) | fail)) (by first | (simp [hne, hf0, hf3, del, Nat.add_assoc, getK_cons, getK, getK_append, getK_del]; done) | fail) (by rfl) (by first | assumption | (simp; done) | fail) (by rfl) (by simp) ?_; (try simp [hne, hf0, hf3, del, Nat.add_assoc]))
  | (refine CallP.ok1 (hw1 _ (by first | omega | (simp; done) | (simp; omega) | fail)) (by first | (simp [hne, hf0, hf3, del, Nat.add_assoc, getK_cons, getK, getK_append, getK_del]; done) | fail) (by rfl) (by first | assumption | (simp; done) | fail) (by rfl) (by simp) ?_; (try simp [hne, hf0, hf3, del, Nat.add_assoc]))
  | (refine CallP.ok1 (hb _ (by first | omega | (simp; done) | (simp; omega) | fail)) (by first | (simp [hne, hf0, hf3, del, Nat.add_assoc, getK_cons, getK, getK_append, getK_del]; done) | fail) (by rfl) (by first | assumption | (simp; done) | fail) (by rfl) (by simp) ?_; (try simp [hne, hf0, hf3, del, Nat.add_assoc]))
  | (refine CallP.ok1 (hw2 _ (by first | omega | (simp; done) | (simp; omega) | fail)) (by first | (simp [hne, hf0, hf3, del, Nat.add_assoc, getK_cons, getK, getK_append, getK_del]; done) | fail) (by rfl) (by first | assumption | (simp; done) | fail) (by rfl) (by simp) ?_; (try simp [hne, hf0, hf3, del, Nat.add_assoc]))
  | (refine CallP_frzV (by first | rfl | fail) ?_; simp [hne, hf0, hf3, del, Nat.add_assoc, frzN, frz1, frz_env, frz_obs, St.frz, St.frzS, frzS, fv, fzVec, fzMap, fzBox, frzObS, frz_entD, frz_rowsD, del, frz, frzOb])
  | fail)
      (refine EndW.frzN 1 ?_; simp [frzN, frz1, frz_env, frz_obs, St.frz, St.frzS, frzS, fv, fzVec, fzMap, fzBox, frzObS, frz_entD, frz_rowsD, del, frz, frzOb, hne, Nat.add_assoc])
      refine EndW.norm ?_
      simp [St.norm, normOb, normD, normU, norm1, hne, Nat.add_assoc]
      (refine EndW.here ?_; (first | (refine EndOK.fin (.inr rfl) ?_) | (refine EndOK.fin (.inl rfl) ?_)); simp [resD, oneOrTup, Tryd.results67, hne, hi]; refine FinOK.cut [(i, pOb l q4)] (nx) (by simp [getK_cons, getK, getK_append, getK_del, Ob.under, D.under, under_rowsD, under_entD, hne, hi] <;> omega) (by simp [D.under]) (by simp [hn]) ?_; try simp)
      exact PPost.at_ok (by simp [PR.bind, *]; rfl) (by simp [Exp.row_eq, Exp.op, Exp.n, Exp.unit, Exp.s, Exp.args]) rfl
theorem prefix_not0 {l : List Tok} (hl : TokOK l) {f p : Nat} {form : Int} (hE : ExpOK l f) (hp : p < l.length) (hf : 4 * (l.length - p) + 1 ≤ f)
  (hf0 : form = 0) (hf3 : form ≤ 3) (h1 : isB l p [105, 102] = false) (h2 : isB l p [110, 111, 116] = true) {i nx : Nat} (hi : i < nx) :
  RetX Tryd.prog 67 [.ptr i 0, intD form] [(i, pOb l p)] nx (PPost l i nx pairD (prefixP l (f + 1) p form)) := by
 have hne := ne_facts hi
 have hll := hl.len
 rw [prefixP]
 have hh1 := fun nx' (h : nx ≤ nx') => has_ret l p [105, 102] i nx' (by omega) hp hl.len
 rw [h1] at hh1
 simp only [if_true, Bool.false_eq_true, if_false] at hh1
 have hp2 := isB_lt hl h2
 have hh2 := fun nx' (h : nx ≤ nx') => has_ret l p [110, 111, 116] i nx' (by omega) hp hl.len
 rw [h2] at hh2
 simp only [if_true, Bool.false_eq_true, if_false] at hh2
 rw [if_neg (by simp [*]), if_pos ⟨hf3, h2⟩]
 have ha := fun nx' (h : nx ≤ nx') => hE (p + 1) 3 i nx' (by omega) hp2 (by omega) (by omega) (by omega)
 cases hr0 : expP l f (p + 1) 3 with
 | stop pos e =>
  simp only [hr0] at ha
  (refine RetX.of_bodyW Tryd.func67 rfl (by simp) fun Γ hn hpan => ?_); simp only [entry, List.zipIdx_cons, List.zipIdx_nil, List.map_cons, List.map_nil, Nat.zero_add, Tryd.ntmps67]
  repeat' (first
  | (refine H_cons ?_; simp [hne, hf0, hf3, del, Nat.add_assoc])
  | (refine H_nil ?_; simp [hne, hf0, hf3, del, Nat.add_assoc])
  | (refine V_sseq ?_; simp [hne, hf0, hf3, del, Nat.add_assoc])
  | (refine V_scond ?_; simp [hne, hf0, hf3, del, Nat.add_assoc])
  | (refine V_skip ?_; simp only [RunK])
  | (refine CallP.ok1 (hh1 _ (by first | omega | (simp; done) | (simp; omega) | fail)) (by first | (simp [hne, hf0, hf3, del, Nat.add_assoc, getK_cons, getK, getK_append, getK_del]; done) | fail) (by rfl) (by first | assumption | (simp; done) | fail) (by rfl) (by simp) ?_; (try simp [hne, hf0, hf3, del, Nat.add_assoc]))
  | (refine CallP.ok1 (hh2 _ (by first | omega | (simp; done) | (simp; omega) | fail)) (by first | (simp [hne, hf0, hf3, del, Nat.add_assoc, getK_cons, getK, getK_append, getK_del]; done) | fail) (by rfl) (by first | assumption | (simp; done) | fail) (by rfl) (by simp) ?_; (try simp [hne, hf0, hf3, del, Nat.add_assoc]))
  | (refine CallP.pan1 (ha _ (by first | omega | (simp; done) | (simp; omega) | fail)) (by first | (simp [hne, hf0, hf3, del, Nat.add_assoc, getK_cons, getK, getK_append, getK_del]; done) | fail) (by rfl) (by first | assumption | (simp; done) | fail) (by rfl) (by simp) ?_; rintro ob' ⟨q', rfl⟩; refine ⟨_, Wk.refl _, ?_⟩)
  | fail)
  (refine hpan _ _ ⟨{ n := _, env := [], obs := [(i, pOb l q')], next := nx }, (Wk.cut rfl (by simp [hn]) (by simp [wkO, getK_cons, getK, getK_append, getK_del, Ob.under, D.under, under_rowsD, under_entD, hi, hne, getK_append, getK_del, getK_cons, getK]) (by simp [wkU, keepE, getK_cons, getK, D.under, hi, hne, getK_append, getK_del, getK_cons, getK]) (by simp [wkE, keepE, getK_cons, getK, hi, hne, getK_append, getK_del, getK_cons, getK])), by simp [hn], ?_⟩; try simp)
  exact PPost.at_stop (by simp [PR.bind, *])
 | ok v0 q0 =>
  have ha := fun nx' h => exp_ok (ha nx' h) hr0
  (refine RetX.of_bodyW Tryd.func67 rfl (by simp) fun Γ hn hpan => ?_); simp only [entry, List.zipIdx_cons, List.zipIdx_nil, List.map_cons, List.map_nil, Nat.zero_add, Tryd.ntmps67]
  repeat' (first
  | (refine H_cons ?_; simp [hne, hf0, hf3, del, Nat.add_assoc])
  | (refine H_nil ?_; simp [hne, hf0, hf3, del, Nat.add_assoc])
  | (refine V_sseq ?_; simp [hne, hf0, hf3, del, Nat.add_assoc])
  | (refine V_scond ?_; simp [hne, hf0, hf3, del, Nat.add_assoc])
  | (refine V_ret ?_; simp only [RunK])
  | (refine V_skip ?_; simp only [RunK])
  | (refine CallP.ok1 (hh1 _ (by first | omega | (simp; done) | (simp; omega) | fail)) (by first | (simp [hne, hf0, hf3, del, Nat.add_assoc, getK_cons, getK, getK_append, getK_del]; done) | fail) (by rfl) (by first | assumption | (simp; done) | fail) (by rfl) (by simp) ?_; (try simp [hne, hf0, hf3, del, Nat.add_assoc]))
  | (refine CallP.ok1 (hh2 _ (by first | omega | (simp; done) | (simp; omega) | fail)) (by first | (simp [hne, hf0, hf3, del, Nat.add_assoc, getK_cons, getK, getK_append, getK_del]; done) | fail) (by rfl) (by first | assumption | (simp; done) | fail) (by rfl) (by simp) ?_; (try simp [hne, hf0, hf3, del, Nat.add_assoc]))
  | (refine CallP.ok1 (ha _ (by first | omega | (simp; done) | (simp; omega) | fail)) (by first | (simp [hne, hf0, hf3, del, Nat.add_assoc, getK_cons, getK, getK_append, getK_del]; done) | fail) (by rfl) (by first | assumption | (simp; done) | fail) (by rfl) (by simp) ?_; (try simp [hne, hf0, hf3, del, Nat.add_assoc]))
  | fail)
  (refine EndW.frzN 1 ?_; simp [frzN, frz1, frz_env, frz_obs, St.frz, St.frzS, frzS, fv, fzVec, fzMap, fzBox, frzObS, frz_entD, frz_rowsD, del, frz, frzOb, hne, Nat.add_assoc])
  refine EndW.norm ?_
  simp [St.norm, normOb, normD, normU, norm1, hne, Nat.add_assoc]
  (refine EndW.here ?_; (first | (refine EndOK.fin (.inr rfl) ?_) | (refine EndOK.fin (.inl rfl) ?_)); simp [resD, oneOrTup, Tryd.results67, hne, hi]; refine FinOK.cut [(i, pOb l q0)] (nx) (by simp [getK_cons, getK, getK_append, getK_del, Ob.under, D.under, under_rowsD, under_entD, hne, hi] <;> omega) (by simp [D.under]) (by simp [hn]) ?_; try simp)
  exact PPost.at_ok (by simp [PR.bind, *]; rfl) (by simp [Exp.row_eq, Exp.op, Exp.n, Exp.unit, Exp.s, Exp.args]) rfl
theorem prefix_not1 {l : List Tok} (hl : TokOK l) {f p : Nat} {form : Int} (hE : ExpOK l f) (hp : p < l.length) (hf : 4 * (l.length - p) + 1 ≤ f)
  (hf0 : ¬ form = 0) (hf3 : form ≤ 3) (h2 : isB l p [110, 111, 116] = true) {i nx : Nat} (hi : i < nx) :
  RetX Tryd.prog 67 [.ptr i 0, intD form] [(i, pOb l p)] nx (PPost l i nx pairD (prefixP l (f + 1) p form)) := by
 have hne := ne_facts hi
 have hll := hl.len
 rw [prefixP]
 have hp2 := isB_lt hl h2
 have hh2 := fun nx' (h : nx ≤ nx') => has_ret l p [110, 111, 116] i nx' (by omega) hp hl.len
 rw [h2] at hh2
 simp only [if_true, Bool.false_eq_true, if_false] at hh2
 rw [if_neg (by simp [*]), if_pos ⟨hf3, h2⟩]
 have ha := fun nx' (h : nx ≤ nx') => hE (p + 1) 3 i nx' (by omega) hp2 (by omega) (by omega) (by omega)
 cases hr0 : expP l f (p + 1) 3 with
 | stop pos e =>
  simp only [hr0] at ha
  (refine RetX.of_bodyW Tryd.func67 rfl (by simp) fun Γ hn hpan => ?_); simp only [entry, List.zipIdx_cons, List.zipIdx_nil, List.map_cons, List.map_nil, Nat.zero_add, Tryd.ntmps67]
  repeat' (first
  | (refine H_cons ?_; simp [hne, hf0, hf3, del, Nat.add_assoc])
  | (refine H_nil ?_; simp [hne, hf0, hf3, del, Nat.add_assoc])
  | (refine V_sseq ?_; simp [hne, hf0, hf3, del, Nat.add_assoc])
  | (refine V_scond ?_; simp [hne, hf0, hf3, del, Nat.add_assoc])
  | (refine V_skip ?_; simp only [RunK])
  | (refine CallP.ok1 (hh2 _ (by first | omega | (simp; done) | (simp; omega) | fail)) (by first | (simp [hne, hf0, hf3, del, Nat.add_assoc, getK_cons, getK, getK_append, getK_del]; done) | fail) (by rfl) (by first | assumption | (simp; done) | fail) (by rfl) (by simp) ?_; (try simp [hne, hf0, hf3, del, Nat.add_assoc]))
  | (refine CallP.pan1 (ha _ (by first | omega | (simp; done) | (simp; omega) | fail)) (by first | (simp [hne, hf0, hf3, del, Nat.add_assoc, getK_cons, getK, getK_append, getK_del]; done) | fail) (by rfl) (by first | assumption | (simp; done) | fail) (by rfl) (by simp) ?_; rintro ob' ⟨q', rfl⟩; refine ⟨_, Wk.refl _, ?_⟩)
  | fail)
  (refine hpan _ _ ⟨{ n := _, env := [], obs := [(i, pOb l q')], next := nx }, (Wk.cut rfl (by simp [hn]) (by simp [wkO, getK_cons, getK, getK_append, getK_del, Ob.under, D.under, under_rowsD, under_entD, hi, hne, getK_append, getK_del, getK_cons, getK]) (by simp [wkU, keepE, getK_cons, getK, D.under, hi, hne, getK_append, getK_del, getK_cons, getK]) (by simp [wkE, keepE, getK_cons, getK, hi, hne, getK_append, getK_del, getK_cons, getK])), by simp [hn], ?_⟩; try simp)
  exact PPost.at_stop (by simp [PR.bind, *])
 | ok v0 q0 =>
  have ha := fun nx' h => exp_ok (ha nx' h) hr0
  (refine RetX.of_bodyW Tryd.func67 rfl (by simp) fun Γ hn hpan => ?_); simp only [entry, List.zipIdx_cons, List.zipIdx_nil, List.map_cons, List.map_nil, Nat.zero_add, Tryd.ntmps67]
  repeat' (first
  | (refine H_cons ?_; simp [hne, hf0, hf3, del, Nat.add_assoc])
  | (refine H_nil ?_; simp [hne, hf0, hf3, del, Nat.add_assoc])
  | (refine V_sseq ?_; simp [hne, hf0, hf3, del, Nat.add_assoc])
  | (refine V_scond ?_; simp [hne, hf0, hf3, del, Nat.add_assoc])
  | (refine V_ret ?_; simp only [RunK])
  | (refine V_skip ?_; simp only [RunK])
  | (refine CallP.ok1 (hh2 _ (by first | omega | (simp; done) | (simp; omega) | fail)) (by first | (simp [hne, hf0, hf3, del, Nat.add_assoc, getK_cons, getK, getK_append, getK_del]; done) | fail) (by rfl) (by first | assumption | (simp; done) | fail) (by rfl) (by simp) ?_; (try simp [hne, hf0, hf3, del, Nat.add_assoc]))
  | (refine CallP.ok1 (ha _ (by first | omega | (simp; done) | (simp; omega) | fail)) (by first | (simp [hne, hf0, hf3, del, Nat.add_assoc, getK_cons, getK, getK_append, getK_del]; done) | fail) (by rfl) (by first | assumption | (simp; done) | fail) (by rfl) (by simp) ?_; (try simp [hne, hf0, hf3, del, Nat.add_assoc]))
  | fail)
  (refine EndW.frzN 1 ?_; simp [frzN, frz1, frz_env, frz_obs, St.frz, St.frzS, frzS, fv, fzVec, fzMap, fzBox, frzObS, frz_entD, frz_rowsD, del, frz, frzOb, hne, Nat.add_assoc])
  refine EndW.norm ?_
  simp [St.norm, normOb, normD, normU, norm1, hne, Nat.add_assoc]
  (refine EndW.here ?_; (first | (refine EndOK.fin (.inr rfl) ?_) | (refine EndOK.fin (.inl rfl) ?_)); simp [resD, oneOrTup, Tryd.results67, hne, hi]; refine FinOK.cut [(i, pOb l q0)] (nx) (by simp [getK_cons, getK, getK_append, getK_del, Ob.under, D.under, under_rowsD, under_entD, hne, hi] <;> omega) (by simp [D.under]) (by simp [hn]) ?_; try simp)
  exact PPost.at_ok (by simp [PR.bind, *]; rfl) (by simp [Exp.row_eq, Exp.op, Exp.n, Exp.unit, Exp.s, Exp.args]) rfl
theorem prefix_prim0 {l : List Tok} (hl : TokOK l) {f p : Nat} {form : Int} (hP : PrimOK l f) (hp : p < l.length) (hf : 4 * (l.length - p) + 1 ≤ f)
  (hf0 : form = 0) (hf3 : form ≤ 3) (h1 : isB l p [105, 102] = false) (h2 : isB l p [110, 111, 116] = false) {i nx : Nat} (hi : i < nx) :
  RetX Tryd.prog 67 [.ptr i 0, intD form] [(i, pOb l p)] nx (PPost l i nx pairD (prefixP l (f + 1) p form)) := by
 have hne := ne_facts hi
 have hll := hl.len
 rw [prefixP]
 have hh1 := fun nx' (h : nx ≤ nx') => has_ret l p [105, 102] i nx' (by omega) hp hl.len
 rw [h1] at hh1
 simp only [if_true, Bool.false_eq_true, if_false] at hh1
 have hh2 := fun nx' (h : nx ≤ nx') => has_ret l p [110, 111, 116] i nx' (by omega) hp hl.len
 rw [h2] at hh2
 simp only [if_true, Bool.false_eq_true, if_false] at hh2
 rw [if_neg (by simp [*]), if_neg (by simp [*])]
 have ha := fun nx' (h : nx ≤ nx') => hP p i nx' (by omega) hp (by omega)
 cases hr0 : primaryP l f p with
 | stop pos e =>
  simp only [hr0] at ha
  (refine RetX.of_bodyW Tryd.func67 rfl (by simp) fun Γ hn hpan => ?_); simp only [entry, List.zipIdx_cons, List.zipIdx_nil, List.map_cons, List.map_nil, Nat.zero_add, Tryd.ntmps67]
  repeat' (first
  | (refine H_cons ?_; simp [hne, hf0, hf3, del, Nat.add_assoc])
  | (refine H_nil ?_; simp [hne, hf0, hf3, del, Nat.add_assoc])
  | (refine V_sseq ?_; simp [hne, hf0, hf3, del, Nat.add_assoc])
  | (refine V_scond ?_; simp [hne, hf0, hf3, del, Nat.add_assoc])
  | (refine V_skip ?_; simp only [RunK])
  | (refine CallP.ok1 (hh1 _ (by first | omega | (simp; done) | (simp; omega) | fail)) (by first | (simp [hne, hf0, hf3, del, Nat.add_assoc, getK_cons, getK, getK_append, getK_del]; done) | fail) (by rfl) (by first | assumption | (simp; done) | fail) (by rfl) (by simp) ?_; (try simp [hne, hf0, hf3, del, Nat.add_assoc]))
  | (refine CallP.ok1 (hh2 _ (by first | omega | (simp; done) | (simp; omega) | fail)) (by first | (simp [hne, hf0, hf3, del, Nat.add_assoc, getK_cons, getK, getK_append, getK_del]; done) | fail) (by rfl) (by first | assumption | (simp; done) | fail) (by rfl) (by simp) ?_; (try simp [hne, hf0, hf3, del, Nat.add_assoc]))
  | (refine CallP.pan1 (ha _ (by first | omega | (simp; done) | (simp; omega) | fail)) (by first | (simp [hne, hf0, hf3, del, Nat.add_assoc, getK_cons, getK, getK_append, getK_del]; done) | fail) (by rfl) (by first | assumption | (simp; done) | fail) (by rfl) (by simp) ?_; rintro ob' ⟨q', rfl⟩; refine ⟨_, Wk.refl _, ?_⟩)
  | fail)
  (refine hpan _ _ ⟨{ n := _, env := [], obs := [(i, pOb l q')], next := nx }, (Wk.cut rfl (by simp [hn]) (by simp [wkO, getK_cons, getK, getK_append, getK_del, Ob.under, D.under, under_rowsD, under_entD, hi, hne, getK_append, getK_del, getK_cons, getK]) (by simp [wkU, keepE, getK_cons, getK, D.under, hi, hne, getK_append, getK_del, getK_cons, getK]) (by simp [wkE, keepE, getK_cons, getK, hi, hne, getK_append, getK_del, getK_cons, getK])), by simp [hn], ?_⟩; try simp)
  exact PPost.at_stop (by simp [PR.bind, *])
 | ok v0 q0 =>
  have ha := fun nx' h => exp_ok (ha nx' h) hr0
  (refine RetX.of_bodyW Tryd.func67 rfl (by simp) fun Γ hn hpan => ?_); simp only [entry, List.zipIdx_cons, List.zipIdx_nil, List.map_cons, List.map_nil, Nat.zero_add, Tryd.ntmps67]
  repeat' (first
  | (refine H_cons ?_; simp [hne, hf0, hf3, del, Nat.add_assoc])
  | (refine H_nil ?_; simp [hne, hf0, hf3, del, Nat.add_assoc])
  | (refine V_sseq ?_; simp [hne, hf0, hf3, del, Nat.add_assoc])
  | (refine V_scond ?_; simp [hne, hf0, hf3, del, Nat.add_assoc])
  | (refine V_ret ?_; simp only [RunK])
  | (refine V_skip ?_; simp only [RunK])
  | (refine CallP.ok1 (hh1 _ (by first | omega | (simp; done) | (simp; omega) | fail)) (by first | (simp [hne, hf0, hf3, del, Nat.add_assoc, getK_cons, getK, getK_append, getK_del]; done) | fail) (by rfl) (by first | assumption | (simp; done) | fail) (by rfl) (by simp) ?_; (try simp [hne, hf0, hf3, del, Nat.add_assoc]))
  | (refine CallP.ok1 (hh2 _ (by first | omega | (simp; done) | (simp; omega) | fail)) (by first | (simp [hne, hf0, hf3, del, Nat.add_assoc, getK_cons, getK, getK_append, getK_del]; done) | fail) (by rfl) (by first | assumption | (simp; done) | fail) (by rfl) (by simp) ?_; (try simp [hne, hf0, hf3, del, Nat.add_assoc]))
  | (refine CallP.ok1 (ha _ (by first | omega | (simp; done) | (simp; omega) | fail)) (by first | (simp [hne, hf0, hf3, del, Nat.add_assoc, getK_cons, getK, getK_append, getK_del]; done) | fail) (by rfl) (by first | assumption | (simp; done) | fail) (by rfl) (by simp) ?_; (try simp [hne, hf0, hf3, del, Nat.add_assoc]))
  | fail)
  refine EndW.norm ?_
  simp [St.norm, normOb, normD, normU, norm1, hne, Nat.add_assoc]
  (refine EndW.here ?_; (first | (refine EndOK.fin (.inr rfl) ?_) | (refine EndOK.fin (.inl rfl) ?_)); simp [resD, oneOrTup, Tryd.results67, hne, hi]; refine FinOK.cut [(i, pOb l q0)] (nx) (by simp [getK_cons, getK, getK_append, getK_del, Ob.under, D.under, under_rowsD, under_entD, hne, hi] <;> omega) (by simp [D.under]) (by simp [hn]) ?_; try simp)
  exact PPost.at_ok (by simp [PR.bind, *]; rfl) (by simp [Exp.row_eq, Exp.op, Exp.n, Exp.unit, Exp.s, Exp.args]) rfl
theorem prefix_prim1 {l : List Tok} (hl : TokOK l) {f p : Nat} {form : Int} (hP : PrimOK l f) (hp : p < l.length) (hf : 4 * (l.length - p) + 1 ≤ f)
  (hf0 : ¬ form = 0) (hf3 : form ≤ 3) (h2 : isB l p [110, 111, 116] = false) {i nx : Nat} (hi : i < nx) :
  RetX Tryd.prog 67 [.ptr i 0, intD form] [(i, pOb l p)] nx (PPost l i nx pairD (prefixP l (f + 1) p form)) := by
 have hne := ne_facts hi
 have hll := hl.len
 rw [prefixP]
 have hh2 := fun nx' (h : nx ≤ nx') => has_ret l p [110, 111, 116] i nx' (by omega) hp hl.len
 rw [h2] at hh2
 simp only [if_true, Bool.false_eq_true, if_false] at hh2
 rw [if_neg (by simp [*]), if_neg (by simp [*])]
 have ha := fun nx' (h : nx ≤ nx') => hP p i nx' (by omega) hp (by omega)
 cases hr0 : primaryP l f p with
 | stop pos e =>
  simp only [hr0] at ha
  (refine RetX.of_bodyW Tryd.func67 rfl (by simp) fun Γ hn hpan => ?_); simp only [entry, List.zipIdx_cons, List.zipIdx_nil, List.map_cons, List.map_nil, Nat.zero_add, Tryd.ntmps67]
  repeat' (first
  | (refine H_cons ?_; simp [hne, hf0, hf3, del, Nat.add_assoc])
  | (refine H_nil ?_; simp [hne, hf0, hf3, del, Nat.add_assoc])
  | (refine V_sseq ?_; simp [hne, hf0, hf3, del, Nat.add_assoc])
  | (refine V_scond ?_; simp [hne, hf0, hf3, del, Nat.add_assoc])
  | (refine V_skip ?_; simp only [RunK])
  | (refine CallP.ok1 (hh2 _ (by first | omega | (simp; done) | (simp; omega) | fail)) (by first | (simp [hne, hf0, hf3, del, Nat.add_assoc, getK_cons, getK, getK_append, getK_del]; done) | fail) (by rfl) (by first | assumption | (simp; done) | fail) (by rfl) (by simp) ?_; (try simp [hne, hf0, hf3, del, Nat.add_assoc]))
  | (refine CallP.pan1 (ha _ (by first | omega | (simp; done) | (simp; omega) | fail)) (by first | (simp [hne, hf0, hf3, del, Nat.add_assoc, getK_cons, getK, getK_append, getK_del]; done) | fail) (by rfl) (by first | assumption | (simp; done) | fail) (by rfl) (by simp) ?_; rintro ob' ⟨q', rfl⟩; refine ⟨_, Wk.refl _, ?_⟩)
  | fail)
  (refine hpan _ _ ⟨{ n := _, env := [], obs := [(i, pOb l q')], next := nx }, (Wk.cut rfl (by simp [hn]) (by simp [wkO, getK_cons, getK, getK_append, getK_del, Ob.under, D.under, under_rowsD, under_entD, hi, hne, getK_append, getK_del, getK_cons, getK]) (by simp [wkU, keepE, getK_cons, getK, D.under, hi, hne, getK_append, getK_del, getK_cons, getK]) (by simp [wkE, keepE, getK_cons, getK, hi, hne, getK_append, getK_del, getK_cons, getK])), by simp [hn], ?_⟩; try simp)
  exact PPost.at_stop (by simp [PR.bind, *])
 | ok v0 q0 =>
  have ha := fun nx' h => exp_ok (ha nx' h) hr0
  (refine RetX.of_bodyW Tryd.func67 rfl (by simp) fun Γ hn hpan => ?_); simp only [entry, List.zipIdx_cons, List.zipIdx_nil, List.map_cons, List.map_nil, Nat.zero_add, Tryd.ntmps67]
  repeat' (first
  | (refine H_cons ?_; simp [hne, hf0, hf3, del, Nat.add_assoc])
  | (refine H_nil ?_; simp [hne, hf0, hf3, del, Nat.add_assoc])
  | (refine V_sseq ?_; simp [hne, hf0, hf3, del, Nat.add_assoc])
  | (refine V_scond ?_; simp [hne, hf0, hf3, del, Nat.add_assoc])
  | (refine V_ret ?_; simp only [RunK])
  | (refine V_skip ?_; simp only [RunK])
  | (refine CallP.ok1 (hh2 _ (by first | omega | (simp; done) | (simp; omega) | fail)) (by first | (simp [hne, hf0, hf3, del, Nat.add_assoc, getK_cons, getK, getK_append, getK_del]; done) | fail) (by rfl) (by first | assumption | (simp; done) | fail) (by rfl) (by simp) ?_; (try simp [hne, hf0, hf3, del, Nat.add_assoc]))
  | (refine CallP.ok1 (ha _ (by first | omega | (simp; done) | (simp; omega) | fail)) (by first | (simp [hne, hf0, hf3, del, Nat.add_assoc, getK_cons, getK, getK_append, getK_del]; done) | fail) (by rfl) (by first | assumption | (simp; done) | fail) (by rfl) (by simp) ?_; (try simp [hne, hf0, hf3, del, Nat.add_assoc]))
  | fail)
  refine EndW.norm ?_
  simp [St.norm, normOb, normD, normU, norm1, hne, Nat.add_assoc]
  (refine EndW.here ?_; (first | (refine EndOK.fin (.inr rfl) ?_) | (refine EndOK.fin (.inl rfl) ?_)); simp [resD, oneOrTup, Tryd.results67, hne, hi]; refine FinOK.cut [(i, pOb l q0)] (nx) (by simp [getK_cons, getK, getK_append, getK_del, Ob.under, D.under, under_rowsD, under_entD, hne, hi] <;> omega) (by simp [D.under]) (by simp [hn]) ?_; try simp)
  exact PPost.at_ok (by simp [PR.bind, *]; rfl) (by simp [Exp.row_eq, Exp.op, Exp.n, Exp.unit, Exp.s, Exp.args]) rfl
theorem prefix_prim2 {l : List Tok} (hl : TokOK l) {f p : Nat} {form : Int} (hP : PrimOK l f) (hp : p < l.length) (hf : 4 * (l.length - p) + 1 ≤ f)
  (hf0 : ¬ form = 0) (hf3 : ¬ form ≤ 3) {i nx : Nat} (hi : i < nx) :
  RetX Tryd.prog 67 [.ptr i 0, intD form] [(i, pOb l p)] nx (PPost l i nx pairD (prefixP l (f + 1) p form)) := by
 have hne := ne_facts hi
 have hll := hl.len
 rw [prefixP]
 rw [if_neg (by simp [*]), if_neg (by simp [*])]
 have ha := fun nx' (h : nx ≤ nx') => hP p i nx' (by omega) hp (by omega)
 cases hr0 : primaryP l f p with
 | stop pos e =>
  simp only [hr0] at ha
  (refine RetX.of_bodyW Tryd.func67 rfl (by simp) fun Γ hn hpan => ?_); simp only [entry, List.zipIdx_cons, List.zipIdx_nil, List.map_cons, List.map_nil, Nat.zero_add, Tryd.ntmps67]
  repeat' (first
  | (refine H_cons ?_; simp [hne, hf0, hf3, del, Nat.add_assoc])
  | (refine H_nil ?_; simp [hne, hf0, hf3, del, Nat.add_assoc])
  | (refine V_sseq ?_; simp [hne, hf0, hf3, del, Nat.add_assoc])
  | (refine V_scond ?_; simp [hne, hf0, hf3, del, Nat.add_assoc])
  | (refine V_skip ?_; simp only [RunK])
  | (refine CallP.pan1 (ha _ (by first | omega | (simp; done) | (simp; omega) | fail)) (by first | (simp [hne, hf0, hf3, del, Nat.add_assoc, getK_cons, getK, getK_append, getK_del]; done) | fail) (by rfl) (by first | assumption | (simp; done) | fail) (by rfl) (by simp) ?_; rintro ob' ⟨q', rfl⟩; refine ⟨_, Wk.refl _, ?_⟩)
  | fail)
  (refine hpan _ _ ⟨{ n := _, env := [], obs := [(i, pOb l q')], next := nx }, (Wk.cut rfl (by simp [hn]) (by simp [wkO, getK_cons, getK, getK_append, getK_del, Ob.under, D.under, under_rowsD, under_entD, hi, hne, getK_append, getK_del, getK_cons, getK]) (by simp [wkU, keepE, getK_cons, getK, D.under, hi, hne, getK_append, getK_del, getK_cons, getK]) (by simp [wkE, keepE, getK_cons, getK, hi, hne, getK_append, getK_del, getK_cons, getK])), by simp [hn], ?_⟩; try simp)
  exact PPost.at_stop (by simp [PR.bind, *])
 | ok v0 q0 =>
  have ha := fun nx' h => exp_ok (ha nx' h) hr0
  (refine RetX.of_bodyW Tryd.func67 rfl (by simp) fun Γ hn hpan => ?_); simp only [entry, List.zipIdx_cons, List.zipIdx_nil, List.map_cons, List.map_nil, Nat.zero_add, Tryd.ntmps67]
  repeat' (first
  | (refine H_cons ?_; simp [hne, hf0, hf3, del, Nat.add_assoc])
  | (refine H_nil ?_; simp [hne, hf0, hf3, del, Nat.add_assoc])
  | (refine V_sseq ?_; simp [hne, hf0, hf3, del, Nat.add_assoc])
  | (refine V_scond ?_; simp [hne, hf0, hf3, del, Nat.add_assoc])
  | (refine V_ret ?_; simp only [RunK])
  | (refine V_skip ?_; simp only [RunK])
  | (refine CallP.ok1 (ha _ (by first | omega | (simp; done) | (simp; omega) | fail)) (by first | (simp [hne, hf0, hf3, del, Nat.add_assoc, getK_cons, getK, getK_append, getK_del]; done) | fail) (by rfl) (by first | assumption | (simp; done) | fail) (by rfl) (by simp) ?_; (try simp [hne, hf0, hf3, del, Nat.add_assoc]))
  | fail)
  refine EndW.norm ?_
  simp [St.norm, normOb, normD, normU, norm1, hne, Nat.add_assoc]
  (refine EndW.here ?_; (first | (refine EndOK.fin (.inr rfl) ?_) | (refine EndOK.fin (.inl rfl) ?_)); simp [resD, oneOrTup, Tryd.results67, hne, hi]; refine FinOK.cut [(i, pOb l q0)] (nx) (by simp [getK_cons, getK, getK_append, getK_del, Ob.under, D.under, under_rowsD, under_entD, hne, hi] <;> omega) (by simp [D.under]) (by simp [hn]) ?_; try simp)
  exact PPost.at_ok (by simp [PR.bind, *]; rfl) (by simp [Exp.row_eq, Exp.op, Exp.n, Exp.unit, Exp.s, Exp.args]) rfl
theorem prefix_step {l : List Tok} (hl : TokOK l) {f : Nat} (hE : ExpOK l f) (hP : PrimOK l f) : PreOK l (f + 1) := by
 intro p form i nx hi hp hf hm0 hm7
 have hf' : 4 * (l.length - p) + 1 ≤ f := by omega
 by_cases hf0 : form = 0
 ·have hf3 : form ≤ 3 := by omega
  cases h1 : isB l p [105, 102] with
  | true => exact prefix_if hl hE hp hf' hf0 h1 hi
  | false =>
   cases h2 : isB l p [110, 111, 116] with
   | true => exact prefix_not0 hl hE hp hf' hf0 hf3 h1 h2 hi
   | false => exact prefix_prim0 hl hP hp hf' hf0 hf3 h1 h2 hi
 ·by_cases hf3 : form ≤ 3
  ·cases h2 : isB l p [110, 111, 116] with
   | true => exact prefix_not1 hl hE hp hf' hf0 hf3 h2 hi
   | false => exact prefix_prim1 hl hP hp hf' hf0 hf3 h2 hi
  ·exact prefix_prim2 hl hP hp hf' hf0 hf3 hi
end Go.Proofs.YtfcopibncpkdoaaDoor
namespace Go.Proofs.YtfcopibncpkdoaaDoor
open Go Go.VL
attribute [local simp] hcons hstep evPure opd uOf putOK St.put St.at getK binD binI binS binB nilD aggD eqUs cmpK lookD lookR rangeD Go.VL.nextD entryD keyD valU keyU lookK mkV entD_nil lookK_entD updK_entD1 updK_entD3 allUE allUE_entD makeMapD mapUpdD mapEff updK valM Key.kk shiftI arith unD convD pickD loadD cellsAt fieldAddrD fieldD indexAddrD indexD sliceD cutD lenD minmaxD nilCheckD buildD fillD cellsD isOne ones setAll mkAgg allU allocD boxD storeD St.add buildSliceD appendD rowsOf makeD setOb getK_setOb getK_del getK_cons stripL strip guardTmp entry chunks zcells valD argsV argsW argW argU1 argU0 argsU0 argsU1 calleeOf scalarD scalarU delAll effD St.effS RK_seq RK_seq_ret RK_seq_exit RK_blk RK_blk_ret RK_blk_exit RK_loop RK_loop_ret RK_loop_exit RK_done vs_seq vs_block vs_cond vs_region vs_loop vs_draw applyW mkD rdIds lentIds callOf calleeOf freeOp D.ids Op.operands Call.operands isEffOp makeIfD typeAssertD conc concs conc1 uOfV panicD IntKind.bits allU2 allU2_append List.take_of_length_le List.range_succ
attribute [local irreducible] V G H HD HD2 RunK Eff CallP CallV EndOK Fun Ret FinOK LoopI LoopW EndW
abbrev oagg (o : Opr) : D := .u (.agg [.str o.text, .int .i64 o.op, .int .i64 o.form])
abbrev oprsU (l : List Opr) : U := .sl (l.map fun o => [.str o.text, .int .i64 o.op, .int .i64 o.form])
theorem operators_fun : Fun Tryd.prog 69 [] (· = .u (oprsU oprs)) := by
 unfold oprsU oprs
 (refine Fun.of_bodyW Tryd.func69 rfl (by simp) fun Γ hn => ?_); simp only [entry, List.zipIdx_cons, List.zipIdx_nil, List.map_cons, List.map_nil, Nat.zero_add, Tryd.ntmps69]
 repeat' (first
  | (refine H_cons ?_; simp [zcells, chunks])
  | (refine H_nil ?_; simp [zcells, chunks])
  | (refine V_sseq ?_; simp [zcells, chunks])
  | (refine V_ret ?_; simp only [RunK])
  | fail)
 (refine EndW.frzN 1 ?_; simp [frzN, frz1, frz_env, frz_obs, St.frz, St.frzS, frzS, fv, fzVec, fzMap, fzBox, frzObS, frz_entD, frz_rowsD, del, frz, frzOb])
 refine EndW.here ?_
 (refine EndOK.val (.inr rfl) ?_; simp [resD, oneOrTup, pureD, Tryd.results69])
theorem expC_fun (l : List Tok) (q : Nat) (o : Opr) (hq : q < l.length) (hl : l.length ≤ 1000000) : Fun Tryd.prog 70 (oagg o :: [U.row [pRow l q] 0].map .u) (· = .u (.bool (isB l q o.text))) := by
 have h1 := is_fun l q o.text hq hl
 simp only [List.map_cons, List.map_nil, oagg]
 (refine Fun.of_body Tryd.func70 rfl (by simp) fun Γ hn => ?_); simp only [entry, List.zipIdx_cons, List.zipIdx_nil, List.map_cons, List.map_nil, Nat.zero_add, Tryd.ntmps70]
 repeat' (first
  | (refine H_cons ?_; simp)
  | (refine H_nil ?_; simp)
  | (refine V_sseq ?_; simp)
  | (refine V_ret ?_; simp only [RunK])
  | (refine CallP.fun_ (h1) (by first | rfl | fail) (by first | assumption | (simp; done) | fail) (by first | (simp; done) | (simp; rfl) | fail) (by first | (simp; done) | fail) (fun d hd => ?_); subst hd; (try simp))
  | fail)
 (refine EndOK.val (.inr rfl) ?_; simp [resD, oneOrTup, pureD, Tryd.results70])
theorem indexO_fun (l : List (Opr)) (f : FuncId) (caps : List U) (p : Opr → Bool) (hf : ∀ n ∈ l, Fun Tryd.prog f (oagg n :: caps.map .u) (· = .u (.bool (p n)))) (hcl : callable Tryd.prog f = true)
  (hca : ∀ o, argsW o (caps.map .u) = some (caps.map .u, [])) : Fun Tryd.prog 68 [.u (oprsU l), .fnc (.func f) (caps.map .u)] (· = .u (.int .i64 (idxP p l 0))) := by
 (refine Fun.of_body Tryd.func68 rfl (by simp) fun Γ hn => ?_); simp only [entry, List.zipIdx_cons, List.zipIdx_nil, List.map_cons, List.map_nil, Nat.zero_add, Tryd.ntmps68]
 simp only [oprsU]
 refine V_len (x := 0) rfl fun hl => ?_
 simp at hl
 repeat' (first
  | (refine H_cons ?_; simp)
  | (refine H_nil ?_; simp)
  | (refine V_sseq ?_; simp)
  | (refine V_sblock ?_; simp)
  | fail)
 refine V_loopF (α := { i : Nat // i ≤ l.length ∧ ∀ c ∈ l.take i, p c = false }) [0, 1, 7] (fun i => [(8, .u (.int .i64 i.1))]) (fun i => l.length - i.1) ⟨0, by omega, by simp⟩ ?_ ?_
 ·exact (Wk.env rfl rfl rfl (by simp [wkE, St.lp, keepE, getK_cons, getK] <;> (try (intros; simp_all; done)) <;> (try (intros; omega)) <;> (try grind)))
 rintro ⟨i, hi, hb⟩
 simp [St.lp, St.only, keepE, getK_cons, getK]
 rcases hx : l[i]? with _ | n
 ·have hge : l.length ≤ i := by simpa using hx
  repeat' (first
  | (refine H_cons ?_; simp [hx])
  | (refine H_nil ?_; simp [hx])
  | (refine ⟨by omega, ?_⟩)
  | (refine V_sseq ?_; simp [hx])
  | (refine V_ret ?_; simp only [RunK])
  | (refine V_exit ?_; simp [RunK])
  | (intro hc <;> (try (exfalso; omega)))
  | fail)
  (refine EndOK.val (.inr rfl) ?_; simp [resD, oneOrTup, pureD, Tryd.results68])
  rw [List.take_of_length_le hge] at hb
  exact (idxP_none hb).symm
 ·have hlt : i < l.length := (List.getElem?_eq_some_iff.1 hx).1
  have h1 := hf n (List.mem_of_getElem? hx)
  simp only [oagg] at h1
  cases hp : p n
  ·rw [hp] at h1
   repeat' (first
  | (refine H_cons ?_; simp [hx, hca])
  | (refine H_nil ?_; simp [hx, hca])
  | (refine ⟨by omega, ?_⟩)
  | (refine V_sseq ?_; simp [hx, hca])
  | (refine V_scond ?_; simp [hx, hca])
  | (refine V_sregion ?_; simp [hx, hca])
  | (refine V_skip ?_; simp only [RunK])
  | (refine ⟨?_, by omega⟩)
  | (intro hc <;> (try (exfalso; omega)))
  | (refine CallP.fun_ (h1) (by first | rfl | fail) (by first | assumption | (simp; done) | fail) (by first | (simp [hx, hca]; done) | (simp [hx, hca]; rfl) | fail) (by first | (simp; done) | fail) (fun d hd => ?_); subst hd; (try simp [hx, hca]))
  | fail)
   refine LoopW.next ⟨i + 1, by omega, take_succ_all hx hb hp⟩ (by simp; omega) ?_
   exact (Wk.env rfl rfl rfl (by simp [wkE, St.lp, keepE, getK_cons, getK] <;> (try (intros; simp_all; done)) <;> (try (intros; omega)) <;> (try grind)))
  ·rw [hp] at h1
   repeat' (first
  | (refine H_cons ?_; simp [hx, hca])
  | (refine H_nil ?_; simp [hx, hca])
  | (refine V_sseq ?_; simp [hx, hca])
  | (refine V_scond ?_; simp [hx, hca])
  | (refine V_ret ?_; simp only [RunK])
  | (refine V_skip ?_; simp only [RunK])
  | (refine ⟨?_, by omega⟩)
  | (intro hc <;> (try (exfalso; omega)))
  | (refine CallP.fun_ (h1) (by first | rfl | fail) (by first | assumption | (simp; done) | fail) (by first | (simp [hx, hca]; done) | (simp [hx, hca]; rfl) | fail) (by first | (simp; done) | fail) (fun d hd => ?_); subst hd; (try simp [hx, hca]))
  | fail)
   (refine EndOK.val (.inr rfl) ?_; simp [resD, oneOrTup, pureD, Tryd.results68])
   rw [idxP_at hb hx hp]
   omega
theorem idxP_find {p : Opr → Bool} : ∀ (L : List Opr) (k : Int), (L.find? p = none → idxP p L k = -1) ∧ ∀ x, L.find? p = some x → ∃ j : Nat, L[j]? = some x ∧ idxP p L k = k + j
 | [], k => ⟨fun _ => rfl, fun x h => by simp at h⟩
 | a :: L, k => by
  by_cases h : p a = true
  ·refine ⟨fun h1 => by simp [h] at h1, fun x h1 => ?_⟩
   rw [List.find?_cons, h] at h1
   cases h1
   exact ⟨0, rfl, by rw [idxP, if_pos h]; simp⟩
  ·have h' : p a = false := by simpa using h
   obtain ⟨h1, h2⟩ := idxP_find L (k + 1)
   refine ⟨fun h3 => ?_, fun x h3 => ?_⟩
   ·rw [List.find?_cons, h'] at h3
    rw [idxP, if_neg h]
    exact h1 h3
   ·rw [List.find?_cons, h'] at h3
    obtain ⟨j, h4, h5⟩ := h2 x h3
    exact ⟨j + 1, h4, by rw [idxP, if_neg h, h5]; omega⟩
theorem indexO_ret (l : List Tok) (q : Nat) (hq : q < l.length) (hl : l.length ≤ 1000000) : Fun Tryd.prog 68 [.u (oprsU oprs), .fnc (.func 70) [.u (.row [pRow l q] 0)]]
  (· = .u (.int .i64 (idxP (fun o => isB l q o.text) oprs 0))) :=
 indexO_fun oprs 70 [U.row [pRow l q] 0] (fun o => isB l q o.text) (fun o _ => expC_fun l q o hq hl) rfl (fun o => rfl)
end Go.Proofs.YtfcopibncpkdoaaDoor
namespace Go.Proofs.YtfcopibncpkdoaaDoor
open Go Go.VL
attribute [local simp] HS hcons hstep evPure opd uOf putOK St.put St.at getK binD binI binS binB nilD aggD eqUs cmpK lookD lookR rangeD Go.VL.nextD entryD keyD valU keyU lookK mkV entD_nil lookK_entD updK_entD1 updK_entD3 allUE allUE_entD makeMapD mapUpdD mapEff updK valM Key.kk shiftI arith unD convD pickD loadD cellsAt fieldAddrD fieldD indexAddrD indexD sliceD cutD lenD minmaxD nilCheckD buildD fillD cellsD isOne ones setAll mkAgg allU allocD boxD storeD St.add buildSliceD appendD rowsOf makeD setOb getK_setOb getK_del getK_cons stripL strip guardTmp entry chunks zcells valD argsV argsW argW argU1 argU0 argsU0 argsU1 calleeOf scalarD scalarU delAll effD St.effS RK_seq RK_seq_ret RK_seq_exit RK_blk RK_blk_ret RK_blk_exit RK_loop RK_loop_ret RK_loop_exit RK_done vs_seq vs_block vs_cond vs_region vs_loop vs_draw applyW mkD rdIds lentIds callOf calleeOf freeOp D.ids Op.operands Call.operands isEffOp makeIfD typeAssertD conc concs conc1 uOfV panicD IntKind.bits allU2 allU2_append List.take_of_length_le List.range_succ
attribute [local irreducible] V G H HD HD2 HD4 HD4h RetX RunK Eff CallP CallV EndOK Fun Ret FinOK LoopI LoopW EndW
theorem pre_ok {l : List Tok} {F : FuncId} {r : PR (Exp × Int)} {e : Exp × Int} {q i nx : Nat} {ds : List D} {obs : List (Nat × Ob)} (h : RetX Tryd.prog F ds obs nx (PPost l i nx pairD r)) (hr : r = .ok e q) :
  RetX Tryd.prog F ds obs nx fun r o n => r = .val (.tup [.u (.agg [.int .i64 e.1.op, .int .i64 e.1.n, .int .i64 e.1.unit, .str e.1.s, .sl (e.1.args.map Exp.row)]), .u (.int .i64 e.2)]) ∧ o = [(i, pOb l q)] ∧ n = nx := by
 subst hr
 rw [← Exp.row_eq]
 exact h
abbrev expOb (e : Exp) : Ob := .box [.u (.int .i64 e.op), .u (.int .i64 e.n), .u (.int .i64 e.unit), .u (.str e.s), .u (.sl (e.args.map Exp.row))]
theorem exp_step {l : List Tok} (hl : TokOK l) {f : Nat} (hE : ∀ g, g < f → ExpOK l g) (hP : PreOK l f) : ExpOK l (f + 1) := by
 intro p form i nx hi hp hf hm0 hm7
 have hne := ne_facts hi
 have hll := hl.len
 rw [expP]
 have ha := fun nx' (h : nx ≤ nx') => hP p form i nx' (by omega) hp (by omega) hm0 hm7
 have hop := operators_fun
 cases hr0 : prefixP l f p form with
 | stop pos e =>
  simp only [hr0] at ha
  (refine RetX.of_bodyW Tryd.func41 rfl (by simp) fun Γ hn hpan => ?_); simp only [entry, List.zipIdx_cons, List.zipIdx_nil, List.map_cons, List.map_nil, Nat.zero_add, Tryd.ntmps41]
  repeat' (first
  | (refine H_cons ?_; simp [hne, del, Nat.add_assoc])
  | (refine H_nil ?_; simp [hne, del, Nat.add_assoc])
  | (refine V_sseq ?_; simp [hne, del, Nat.add_assoc])
  | (refine CallP.pan1 (ha _ (by first | omega | (simp; done) | (simp; omega) | fail)) (by first | (simp [hne, del, Nat.add_assoc, getK_cons, getK, getK_append, getK_del]; done) | fail) (by rfl) (by first | assumption | (simp; done) | fail) (by rfl) (by simp) ?_; rintro ob' ⟨q', rfl⟩; refine ⟨_, Wk.refl _, ?_⟩)
  | fail)
  (refine hpan _ _ ⟨{ n := _, env := [], obs := [(i, pOb l q')], next := nx }, (Wk.cut rfl (by simp [hn]) (by simp [wkO, getK_cons, getK, getK_append, getK_del, Ob.under, D.under, under_rowsD, under_entD, hi, hne, getK_append, getK_del, getK_cons, getK]) (by simp [wkU, keepE, getK_cons, getK, D.under, hi, hne, getK_append, getK_del, getK_cons, getK]) (by simp [wkE, keepE, getK_cons, getK, hi, hne, getK_append, getK_del, getK_cons, getK])), by simp [hn], ?_⟩; try simp)
  exact PPost.at_stop (by simp [PR.bind, *])
 | ok v0 q0 =>
  have ha := fun nx' h => pre_ok (ha nx' h) hr0
  obtain ⟨g0a, g0b⟩ := (parse_le hl f).2.2.1 _ _ _ _ hr0 hp
  generalize hR : (PR.ok v0 q0).bind (fun e q => loopP l f form e.1 e.2 q) = R
  have hR' : R = loopP l f form v0.1 v0.2 q0 := hR.symm
  (refine RetX.of_bodyW Tryd.func41 rfl (by simp) fun Γ hn hpan => ?_); simp only [entry, List.zipIdx_cons, List.zipIdx_nil, List.map_cons, List.map_nil, Nat.zero_add, Tryd.ntmps41]
  repeat' (first
  | (refine H_cons ?_; simp [hne, del, Nat.add_assoc])
  | (refine H_nil ?_; simp [hne, del, Nat.add_assoc])
  | (refine V_sseq ?_; simp [hne, del, Nat.add_assoc])
  | (refine V_sblock ?_; simp [hne, del, Nat.add_assoc])
  | (refine CallP.ok1 (ha _ (by first | omega | (simp; done) | (simp; omega) | fail)) (by first | (simp [hne, del, Nat.add_assoc, getK_cons, getK, getK_append, getK_del]; done) | fail) (by rfl) (by first | assumption | (simp; done) | fail) (by rfl) (by simp) ?_; (try simp [hne, del, Nat.add_assoc]))
  | fail)
  refine V_loopO (α := { x : Exp × Int × Nat × Nat // x.2.2.1 < l.length ∧ 4 * (l.length - x.2.2.1) + 2 ≤ x.2.2.2 ∧ x.2.2.2 ≤ f ∧ R = loopP l x.2.2.2 form x.1 x.2.1 x.2.2.1 }) [0, 1, 2, 4, 5] (fun x => [(6, .u (.int .i64 x.1.2.1))])
   (fun x => [(nx + 2, expOb x.1.1), (nx + 1, .box [.u (.int .i64 0), .u (.int .i64 0), .u (.int .i64 0), .u (.str []), .u .nil]), (nx, .box [.ptr i 0]), (i, pOb l x.1.2.2.1)]) (nx + 3) (fun x => x.1.2.2.2) ⟨(v0.1, v0.2, q0, f), g0b, (by show 4 * (l.length - q0) + 2 ≤ f; omega), (by show f ≤ f; omega), hR'⟩ ?_ ?_
  ·have hi3 : i < nx + 3 := by omega
   exact (Wk.cut rfl (by simp [hn, St.lp]) (by simp [wkO, St.lp, getK_cons, getK, Ob.under, D.under, under_rowsD, under_entD, hi, hi3, hne]) (by simp [wkU, St.lp, keepE, getK_cons, getK, D.under, hi, hi3, hne]) (by simp [wkE, St.lp, keepE, getK_cons, getK, hi, hi3, hne] <;> (try (intros; simp_all; done)) <;> (try (intros; omega)) <;> (try grind)))
  rintro ⟨⟨e, own, q, g⟩, h1, h2, h2b, h3⟩
  simp only at h1 h2 h2b h3
  simp [St.lp, St.only, keepE, getK_cons, getK]
  obtain ⟨g, rfl⟩ : ∃ g', g = g' + 1 := ⟨g - 1, by omega⟩
  rw [loopP] at h3
  have hix := indexO_ret l q h1 hl.len
  cases hx : oprAt l q with
  | none =>
   rw [(idxP_find oprs 0).1 hx] at hix
   rw [hx] at h3
   repeat' (first
  | (refine H_cons ?_; simp [hne, del, Nat.add_assoc])
  | (refine H_nil ?_; simp [hne, del, Nat.add_assoc])
  | (refine V_sseq ?_; simp [hne, del, Nat.add_assoc])
  | (refine V_scond ?_; simp [hne, del, Nat.add_assoc])
  | (refine V_sblock ?_; simp [hne, del, Nat.add_assoc])
  | (refine V_ret ?_; simp only [RunK])
  | (refine CallP.fun_ (hop) (by first | rfl | fail) (by first | assumption | (simp; done) | fail) (by first | (simp [hne, del, Nat.add_assoc]; done) | (simp [hne, del, Nat.add_assoc]; rfl) | fail) (by first | (simp; done) | fail) (fun d hd => ?_); subst hd; (try simp [hne, del, Nat.add_assoc]))
  | (refine CallP.fun_ (hix) (by first | rfl | fail) (by first | assumption | (simp; done) | fail) (by first | (simp [hne, del, Nat.add_assoc]; done) | (simp [hne, del, Nat.add_assoc]; rfl) | fail) (by first | (simp; done) | fail) (fun d hd => ?_); subst hd; (try simp [hne, del, Nat.add_assoc]))
  | fail)
   refine EndW.norm ?_
   simp [St.norm, normOb, normD, normU, norm1, hne, Nat.add_assoc]
   (refine EndW.here ?_; (first | (refine EndOK.fin (.inr rfl) ?_) | (refine EndOK.fin (.inl rfl) ?_)); simp [resD, oneOrTup, Tryd.results41, hne, hi]; refine FinOK.cut [(i, pOb l q)] (nx) (by simp [getK_cons, getK, getK_append, getK_del, Ob.under, D.under, under_rowsD, under_entD, hne, hi] <;> omega) (by simp [D.under]) (by simp [hn]) ?_; try simp)
   exact PPost.at_ok h3 (by simp [Exp.row_eq]) rfl
  | some x =>
   obtain ⟨k, hk1, hk2⟩ := (idxP_find oprs 0).2 x hx
   rw [hk2] at hix
   rw [hx] at h3
   simp only at h3
   have hqb := isB_lt hl (by have := List.find?_some (p := fun o : Opr => isB l q o.text) hx; exact this)
   have hk0 : ¬ ((k : Int) < 0) := by omega
   have hkl : k < 8 := (List.getElem?_eq_some_iff.1 hk1).1
   rw [show (0 : Int) + k = (k : Int) by omega] at hix
   have hfm : 0 ≤ x.form ∧ x.form ≤ 6 := by
    have := List.mem_of_getElem? hk1
    simp only [oprs, List.mem_cons, List.not_mem_nil, or_false] at this
    rcases this with rfl | rfl | rfl | rfl | rfl | rfl | rfl | rfl <;> decide
   obtain ⟨hf0, hf6⟩ := hfm
   generalize hL : oprs = L at hop hix hk1
   by_cases c1 : x.form < form
   ·rw [if_pos (Or.inl c1)] at h3
    repeat' (first
  | (refine H_cons ?_; simp [hne, del, Nat.add_assoc, hk0, hk1, c1])
  | (refine H_nil ?_; simp [hne, del, Nat.add_assoc, hk0, hk1, c1])
  | (refine V_sseq ?_; simp [hne, del, Nat.add_assoc, hk0, hk1, c1])
  | (refine V_scond ?_; simp [hne, del, Nat.add_assoc, hk0, hk1, c1])
  | (refine V_sblock ?_; simp [hne, del, Nat.add_assoc, hk0, hk1, c1])
  | (refine V_ret ?_; simp only [RunK])
  | (refine V_skip ?_; simp only [RunK])
  | (refine CallP.fun_ (hop) (by first | rfl | fail) (by first | assumption | (simp; done) | fail) (by first | (simp [hne, del, Nat.add_assoc, hk0, hk1, c1]; done) | (simp [hne, del, Nat.add_assoc, hk0, hk1, c1]; rfl) | fail) (by first | (simp; done) | fail) (fun d hd => ?_); subst hd; (try simp [hne, del, Nat.add_assoc, hk0, hk1, c1]))
  | (refine CallP.fun_ (hix) (by first | rfl | fail) (by first | assumption | (simp; done) | fail) (by first | (simp [hne, del, Nat.add_assoc, hk0, hk1, c1]; done) | (simp [hne, del, Nat.add_assoc, hk0, hk1, c1]; rfl) | fail) (by first | (simp; done) | fail) (fun d hd => ?_); subst hd; (try simp [hne, del, Nat.add_assoc, hk0, hk1, c1]))
  | fail)
    refine EndW.norm ?_
    simp [St.norm, normOb, normD, normU, norm1, hne, Nat.add_assoc]
    (refine EndW.here ?_; (first | (refine EndOK.fin (.inr rfl) ?_) | (refine EndOK.fin (.inl rfl) ?_)); simp [resD, oneOrTup, Tryd.results41, hne, hi]; refine FinOK.cut [(i, pOb l q)] (nx) (by simp [getK_cons, getK, getK_append, getK_del, Ob.under, D.under, under_rowsD, under_entD, hne, hi] <;> omega) (by simp [D.under]) (by simp [hn]) ?_; try simp)
    exact PPost.at_ok h3 (by simp [Exp.row_eq]) rfl
   ·by_cases c2 : own < x.form
    ·rw [if_pos (Or.inr (Or.inl c2))] at h3
     repeat' (first
  | (refine H_cons ?_; simp [hne, del, Nat.add_assoc, hk0, hk1, c1, c2])
  | (refine H_nil ?_; simp [hne, del, Nat.add_assoc, hk0, hk1, c1, c2])
  | (refine V_sseq ?_; simp [hne, del, Nat.add_assoc, hk0, hk1, c1, c2])
  | (refine V_scond ?_; simp [hne, del, Nat.add_assoc, hk0, hk1, c1, c2])
  | (refine V_sblock ?_; simp [hne, del, Nat.add_assoc, hk0, hk1, c1, c2])
  | (refine V_ret ?_; simp only [RunK])
  | (refine V_skip ?_; simp only [RunK])
  | (refine CallP.fun_ (hop) (by first | rfl | fail) (by first | assumption | (simp; done) | fail) (by first | (simp [hne, del, Nat.add_assoc, hk0, hk1, c1, c2]; done) | (simp [hne, del, Nat.add_assoc, hk0, hk1, c1, c2]; rfl) | fail) (by first | (simp; done) | fail) (fun d hd => ?_); subst hd; (try simp [hne, del, Nat.add_assoc, hk0, hk1, c1, c2]))
  | (refine CallP.fun_ (hix) (by first | rfl | fail) (by first | assumption | (simp; done) | fail) (by first | (simp [hne, del, Nat.add_assoc, hk0, hk1, c1, c2]; done) | (simp [hne, del, Nat.add_assoc, hk0, hk1, c1, c2]; rfl) | fail) (by first | (simp; done) | fail) (fun d hd => ?_); subst hd; (try simp [hne, del, Nat.add_assoc, hk0, hk1, c1, c2]))
  | fail)
     refine EndW.norm ?_
     simp [St.norm, normOb, normD, normU, norm1, hne, Nat.add_assoc]
     (refine EndW.here ?_; (first | (refine EndOK.fin (.inr rfl) ?_) | (refine EndOK.fin (.inl rfl) ?_)); simp [resD, oneOrTup, Tryd.results41, hne, hi]; refine FinOK.cut [(i, pOb l q)] (nx) (by simp [getK_cons, getK, getK_append, getK_del, Ob.under, D.under, under_rowsD, under_entD, hne, hi] <;> omega) (by simp [D.under]) (by simp [hn]) ?_; try simp)
     exact PPost.at_ok h3 (by simp [Exp.row_eq]) rfl
    ·by_cases c3 : own = 4 ∧ x.form = 4
     ·rw [if_pos (Or.inr (Or.inr c3))] at h3
      obtain ⟨c4, c5⟩ := c3
      repeat' (first
  | (refine H_cons ?_; simp [hne, del, Nat.add_assoc, hk0, hk1, c1, c2, c4, c5])
  | (refine H_nil ?_; simp [hne, del, Nat.add_assoc, hk0, hk1, c1, c2, c4, c5])
  | (refine V_sseq ?_; simp [hne, del, Nat.add_assoc, hk0, hk1, c1, c2, c4, c5])
  | (refine V_scond ?_; simp [hne, del, Nat.add_assoc, hk0, hk1, c1, c2, c4, c5])
  | (refine V_sblock ?_; simp [hne, del, Nat.add_assoc, hk0, hk1, c1, c2, c4, c5])
  | (refine V_ret ?_; simp only [RunK])
  | (refine V_skip ?_; simp only [RunK])
  | (refine ⟨?_, by omega⟩)
  | (intro hc <;> (try (exfalso; omega)))
  | (refine CallP.fun_ (hop) (by first | rfl | fail) (by first | assumption | (simp; done) | fail) (by first | (simp [hne, del, Nat.add_assoc, hk0, hk1, c1, c2, c4, c5]; done) | (simp [hne, del, Nat.add_assoc, hk0, hk1, c1, c2, c4, c5]; rfl) | fail) (by first | (simp; done) | fail) (fun d hd => ?_); subst hd; (try simp [hne, del, Nat.add_assoc, hk0, hk1, c1, c2, c4, c5]))
  | (refine CallP.fun_ (hix) (by first | rfl | fail) (by first | assumption | (simp; done) | fail) (by first | (simp [hne, del, Nat.add_assoc, hk0, hk1, c1, c2, c4, c5]; done) | (simp [hne, del, Nat.add_assoc, hk0, hk1, c1, c2, c4, c5]; rfl) | fail) (by first | (simp; done) | fail) (fun d hd => ?_); subst hd; (try simp [hne, del, Nat.add_assoc, hk0, hk1, c1, c2, c4, c5]))
  | fail)
      refine EndW.norm ?_
      simp [St.norm, normOb, normD, normU, norm1, hne, Nat.add_assoc]
      (refine EndW.here ?_; (first | (refine EndOK.fin (.inr rfl) ?_) | (refine EndOK.fin (.inl rfl) ?_)); simp [resD, oneOrTup, Tryd.results41, hne, hi]; refine FinOK.cut [(i, pOb l q)] (nx) (by simp [getK_cons, getK, getK_append, getK_del, Ob.under, D.under, under_rowsD, under_entD, hne, hi] <;> omega) (by simp [D.under]) (by simp [hn]) ?_; try simp)
      exact PPost.at_ok h3 (by simp [Exp.row_eq]) rfl
     ·rw [if_neg (by rintro (h | h | h) <;> contradiction)] at h3
      have hb := fun nx' (h : nx ≤ nx') => hE g (by omega) (q + 1) (x.form + 1) i nx' (by omega) hqb (by omega) (by omega) (by omega)
      cases hr1 : expP l g (q + 1) (x.form + 1) with
      | stop pos err =>
       simp only [hr1] at hb
       rw [hr1] at h3
       by_cases c4 : own = 4
       ·have c5 : ¬ x.form = 4 := fun h => c3 ⟨c4, h⟩
        repeat' (first
  | (refine HD4_pan1 (fun nx' h' => hb nx' (by simp at h'; omega)) (by first | (simp [hne, del, Nat.add_assoc, hk0, hk1, c1, c2, c4, c5, getK_cons, getK, getK_append, getK_del, getK_setOb, applyW]; done) | fail) (by rfl) (by first | assumption | simp) (by rfl) (by simp) ?_ ?_; rintro env' ob' n' hn' ⟨q', rfl⟩; refine ⟨_, Wk.refl _, ?_⟩)
  | (refine HD4_skipS rfl (by simp) ?_; simp)
  | (refine H_cons ?_; simp [hne, del, Nat.add_assoc, hk0, hk1, c1, c2, c4, c5])
  | (refine HD4_val rfl ?_; simp [hne, del, Nat.add_assoc, hk0, hk1, c1, c2, c4, c5])
  | (refine H_nil ?_; simp [hne, del, Nat.add_assoc, hk0, hk1, c1, c2, c4, c5])
  | (refine ⟨by omega, ?_⟩)
  | (refine V_sseq ?_; simp [hne, del, Nat.add_assoc, hk0, hk1, c1, c2, c4, c5])
  | (refine V_scond ?_; simp [hne, del, Nat.add_assoc, hk0, hk1, c1, c2, c4, c5])
  | (refine HD4_nilS (hC _ (okP4_ren [i] nx (by simp <;> omega) (by simp <;> omega) (by apply Exists.intro; apply And.intro; (focus (repeat' (first | exact KF.nil | exact KL.nil | apply KF.cons | apply KL.cons 0 rfl | apply KL.cons 1 rfl | apply KL.cons 2 rfl | apply KL.cons 3 rfl | apply KL.cons 4 rfl | apply KL.cons 5 rfl | apply KL.cons 6 rfl | apply KL.cons 7 rfl | apply KL.cons 8 rfl | apply KL.cons 9 rfl))); kernel_rfl))) rfl; done)
  | (refine V_drawX rfl (by kernel_rfl) (by first | (simp [hn]; done) | (simp [hn]; omega) | fail) fun C k hC hk => ?_; simp [hne, del, Nat.add_assoc, hk0, hk1, c1, c2, c4, c5])
  | (refine V_sblock ?_; simp [hne, del, Nat.add_assoc, hk0, hk1, c1, c2, c4, c5])
  | (refine V_skip ?_; simp only [RunK])
  | (refine ⟨?_, by omega⟩)
  | (intro hc <;> (try (exfalso; omega)))
  | (refine CallP.fun_ (hop) (by first | rfl | fail) (by first | assumption | (simp; done) | fail) (by first | (simp [hne, del, Nat.add_assoc, hk0, hk1, c1, c2, c4, c5]; done) | (simp [hne, del, Nat.add_assoc, hk0, hk1, c1, c2, c4, c5]; rfl) | fail) (by first | (simp; done) | fail) (fun d hd => ?_); subst hd; (try simp [hne, del, Nat.add_assoc, hk0, hk1, c1, c2, c4, c5]))
  | (refine CallP.fun_ (hix) (by first | rfl | fail) (by first | assumption | (simp; done) | fail) (by first | (simp [hne, del, Nat.add_assoc, hk0, hk1, c1, c2, c4, c5]; done) | (simp [hne, del, Nat.add_assoc, hk0, hk1, c1, c2, c4, c5]; rfl) | fail) (by first | (simp; done) | fail) (fun d hd => ?_); subst hd; (try simp [hne, del, Nat.add_assoc, hk0, hk1, c1, c2, c4, c5]))
  | fail)
        (refine hpan _ _ ⟨{ n := _, env := [], obs := [(i, pOb l q')], next := nx }, (Wk.cut rfl (by simp [hn]) (by simp [wkO, getK_cons, getK, getK_append, getK_del, Ob.under, D.under, under_rowsD, under_entD, hi, hne, getK_append, getK_del, getK_cons, getK]) (by simp [wkU, keepE, getK_cons, getK, D.under, hi, hne, getK_append, getK_del, getK_cons, getK]) (by simp [wkE, keepE, getK_cons, getK, hi, hne, getK_append, getK_del, getK_cons, getK])), by simp [hn], ?_⟩; try simp)
        exact PPost.at_stop h3
       ·repeat' (first
  | (refine HD4_pan1 (fun nx' h' => hb nx' (by simp at h'; omega)) (by first | (simp [hne, del, Nat.add_assoc, hk0, hk1, c1, c2, c4, getK_cons, getK, getK_append, getK_del, getK_setOb, applyW]; done) | fail) (by rfl) (by first | assumption | simp) (by rfl) (by simp) ?_ ?_; rintro env' ob' n' hn' ⟨q', rfl⟩; refine ⟨_, Wk.refl _, ?_⟩)
  | (refine HD4_skipS rfl (by simp) ?_; simp)
  | (refine H_cons ?_; simp [hne, del, Nat.add_assoc, hk0, hk1, c1, c2, c4])
  | (refine HD4_val rfl ?_; simp [hne, del, Nat.add_assoc, hk0, hk1, c1, c2, c4])
  | (refine H_nil ?_; simp [hne, del, Nat.add_assoc, hk0, hk1, c1, c2, c4])
  | (refine ⟨by omega, ?_⟩)
  | (refine V_sseq ?_; simp [hne, del, Nat.add_assoc, hk0, hk1, c1, c2, c4])
  | (refine V_scond ?_; simp [hne, del, Nat.add_assoc, hk0, hk1, c1, c2, c4])
  | (refine HD4_nilS (hC _ (okP4_ren [i] nx (by simp <;> omega) (by simp <;> omega) (by apply Exists.intro; apply And.intro; (focus (repeat' (first | exact KF.nil | exact KL.nil | apply KF.cons | apply KL.cons 0 rfl | apply KL.cons 1 rfl | apply KL.cons 2 rfl | apply KL.cons 3 rfl | apply KL.cons 4 rfl | apply KL.cons 5 rfl | apply KL.cons 6 rfl | apply KL.cons 7 rfl | apply KL.cons 8 rfl | apply KL.cons 9 rfl))); kernel_rfl))) rfl; done)
  | (refine V_drawX rfl (by kernel_rfl) (by first | (simp [hn]; done) | (simp [hn]; omega) | fail) fun C k hC hk => ?_; simp [hne, del, Nat.add_assoc, hk0, hk1, c1, c2, c4])
  | (refine V_sblock ?_; simp [hne, del, Nat.add_assoc, hk0, hk1, c1, c2, c4])
  | (refine V_skip ?_; simp only [RunK])
  | (refine CallP.fun_ (hop) (by first | rfl | fail) (by first | assumption | (simp; done) | fail) (by first | (simp [hne, del, Nat.add_assoc, hk0, hk1, c1, c2, c4]; done) | (simp [hne, del, Nat.add_assoc, hk0, hk1, c1, c2, c4]; rfl) | fail) (by first | (simp; done) | fail) (fun d hd => ?_); subst hd; (try simp [hne, del, Nat.add_assoc, hk0, hk1, c1, c2, c4]))
  | (refine CallP.fun_ (hix) (by first | rfl | fail) (by first | assumption | (simp; done) | fail) (by first | (simp [hne, del, Nat.add_assoc, hk0, hk1, c1, c2, c4]; done) | (simp [hne, del, Nat.add_assoc, hk0, hk1, c1, c2, c4]; rfl) | fail) (by first | (simp; done) | fail) (fun d hd => ?_); subst hd; (try simp [hne, del, Nat.add_assoc, hk0, hk1, c1, c2, c4]))
  | fail)
        (refine hpan _ _ ⟨{ n := _, env := [], obs := [(i, pOb l q')], next := nx }, (Wk.cut rfl (by simp [hn]) (by simp [wkO, getK_cons, getK, getK_append, getK_del, Ob.under, D.under, under_rowsD, under_entD, hi, hne, getK_append, getK_del, getK_cons, getK]) (by simp [wkU, keepE, getK_cons, getK, D.under, hi, hne, getK_append, getK_del, getK_cons, getK]) (by simp [wkE, keepE, getK_cons, getK, hi, hne, getK_append, getK_del, getK_cons, getK])), by simp [hn], ?_⟩; try simp)
        exact PPost.at_stop h3
      | ok e2 q2 =>
       have hb := fun nx' h => exp_ok (hb nx' h) hr1
       obtain ⟨g1a, g1b⟩ := (parse_le hl g).1 _ _ _ _ hr1 hqb
       rw [hr1] at h3
       by_cases c4 : own = 4
       ·have c5 : ¬ x.form = 4 := fun h => c3 ⟨c4, h⟩
        repeat' (first
  | (refine HD4_ok1 (fun nx' h' => hb nx' (by simp at h'; omega)) (by first | (simp [hne, del, Nat.add_assoc, hk0, hk1, c1, c2, c4, c5, getK_cons, getK, getK_append, getK_del, getK_setOb, applyW]; done) | fail) (by rfl) (by first | assumption | simp) (by rfl) (by simp [D.under, Ob.under]) (by simp) ?_; (try simp [hne, del, Nat.add_assoc, hk0, hk1, c1, c2, c4, c5]))
  | (refine H_cons ?_; simp [hne, del, Nat.add_assoc, hk0, hk1, c1, c2, c4, c5])
  | (refine HD4_val rfl ?_; simp [hne, del, Nat.add_assoc, hk0, hk1, c1, c2, c4, c5])
  | (refine HD4_chg rfl ?_; simp [hne, del, Nat.add_assoc, hk0, hk1, c1, c2, c4, c5])
  | (refine H_nil ?_; simp [hne, del, Nat.add_assoc, hk0, hk1, c1, c2, c4, c5])
  | (refine ⟨by omega, ?_⟩)
  | (refine V_sseq ?_; simp [hne, del, Nat.add_assoc, hk0, hk1, c1, c2, c4, c5])
  | (refine V_scond ?_; simp [hne, del, Nat.add_assoc, hk0, hk1, c1, c2, c4, c5])
  | (refine HD4_nil (hC _ (okP4_ren [i] nx (by simp <;> omega) (by simp <;> omega) (by apply Exists.intro; apply And.intro; (focus (repeat' (first | exact KF.nil | exact KL.nil | apply KF.cons | apply KL.cons 0 rfl | apply KL.cons 1 rfl | apply KL.cons 2 rfl | apply KL.cons 3 rfl | apply KL.cons 4 rfl | apply KL.cons 5 rfl | apply KL.cons 6 rfl | apply KL.cons 7 rfl | apply KL.cons 8 rfl | apply KL.cons 9 rfl))); kernel_rfl))) (hk _ ?_); clear hC hk C k; simp only [RunK])
  | (refine V_drawX rfl (by kernel_rfl) (by first | (simp [hn]; done) | (simp [hn]; omega) | fail) fun C k hC hk => ?_; simp [hne, del, Nat.add_assoc, hk0, hk1, c1, c2, c4, c5])
  | (refine V_sblock ?_; simp [hne, del, Nat.add_assoc, hk0, hk1, c1, c2, c4, c5])
  | (refine V_sregion ?_; simp [hne, del, Nat.add_assoc, hk0, hk1, c1, c2, c4, c5])
  | (refine V_skip ?_; simp only [RunK])
  | (refine ⟨?_, by omega⟩)
  | (intro hc <;> (try (exfalso; omega)))
  | (refine CallP.fun_ (hop) (by first | rfl | fail) (by first | assumption | (simp; done) | fail) (by first | (simp [hne, del, Nat.add_assoc, hk0, hk1, c1, c2, c4, c5]; done) | (simp [hne, del, Nat.add_assoc, hk0, hk1, c1, c2, c4, c5]; rfl) | fail) (by first | (simp; done) | fail) (fun d hd => ?_); subst hd; (try simp [hne, del, Nat.add_assoc, hk0, hk1, c1, c2, c4, c5]))
  | (refine CallP.fun_ (hix) (by first | rfl | fail) (by first | assumption | (simp; done) | fail) (by first | (simp [hne, del, Nat.add_assoc, hk0, hk1, c1, c2, c4, c5]; done) | (simp [hne, del, Nat.add_assoc, hk0, hk1, c1, c2, c4, c5]; rfl) | fail) (by first | (simp; done) | fail) (fun d hd => ?_); subst hd; (try simp [hne, del, Nat.add_assoc, hk0, hk1, c1, c2, c4, c5]))
  | fail)
        have hi3 : i < nx + 3 := by omega
        refine LoopW.next ⟨(.mk x.op 0 0 [] [e, e2], x.form, q2, g), g1b, (by show 4 * (l.length - q2) + 2 ≤ g; omega), (by show g ≤ f; omega), h3⟩ (by show g < g + 1; omega) ?_
        refine Wk.trans (Wk.frzN 1 _) ?_
        simp [hne, Nat.add_assoc, frzN, frz1, frz_env, frz_obs, St.frz, St.frzS, frzS, fv, fzVec, fzMap, fzBox, frzObS, frz_entD, frz_rowsD, del, frz, frzOb]
        exact (Wk.cut rfl (by simp [hn, St.lp]) (by simp [wkO, St.lp, getK_cons, getK, Ob.under, D.under, under_rowsD, under_entD, hi, hi3, hne, Exp.row_eq, Exp.op, Exp.n, Exp.unit, Exp.s, Exp.args]) (by simp [wkU, St.lp, keepE, getK_cons, getK, D.under, hi, hi3, hne, Exp.row_eq, Exp.op, Exp.n, Exp.unit, Exp.s, Exp.args]) (by simp [wkE, St.lp, keepE, getK_cons, getK, hi, hi3, hne, Exp.row_eq, Exp.op, Exp.n, Exp.unit, Exp.s, Exp.args] <;> (try (intros; simp_all; done)) <;> (try (intros; omega)) <;> (try grind)))
       ·repeat' (first
  | (refine HD4_ok1 (fun nx' h' => hb nx' (by simp at h'; omega)) (by first | (simp [hne, del, Nat.add_assoc, hk0, hk1, c1, c2, c4, getK_cons, getK, getK_append, getK_del, getK_setOb, applyW]; done) | fail) (by rfl) (by first | assumption | simp) (by rfl) (by simp [D.under, Ob.under]) (by simp) ?_; (try simp [hne, del, Nat.add_assoc, hk0, hk1, c1, c2, c4]))
  | (refine H_cons ?_; simp [hne, del, Nat.add_assoc, hk0, hk1, c1, c2, c4])
  | (refine HD4_val rfl ?_; simp [hne, del, Nat.add_assoc, hk0, hk1, c1, c2, c4])
  | (refine HD4_chg rfl ?_; simp [hne, del, Nat.add_assoc, hk0, hk1, c1, c2, c4])
  | (refine H_nil ?_; simp [hne, del, Nat.add_assoc, hk0, hk1, c1, c2, c4])
  | (refine ⟨by omega, ?_⟩)
  | (refine V_sseq ?_; simp [hne, del, Nat.add_assoc, hk0, hk1, c1, c2, c4])
  | (refine V_scond ?_; simp [hne, del, Nat.add_assoc, hk0, hk1, c1, c2, c4])
  | (refine HD4_nil (hC _ (okP4_ren [i] nx (by simp <;> omega) (by simp <;> omega) (by apply Exists.intro; apply And.intro; (focus (repeat' (first | exact KF.nil | exact KL.nil | apply KF.cons | apply KL.cons 0 rfl | apply KL.cons 1 rfl | apply KL.cons 2 rfl | apply KL.cons 3 rfl | apply KL.cons 4 rfl | apply KL.cons 5 rfl | apply KL.cons 6 rfl | apply KL.cons 7 rfl | apply KL.cons 8 rfl | apply KL.cons 9 rfl))); kernel_rfl))) (hk _ ?_); clear hC hk C k; simp only [RunK])
  | (refine V_drawX rfl (by kernel_rfl) (by first | (simp [hn]; done) | (simp [hn]; omega) | fail) fun C k hC hk => ?_; simp [hne, del, Nat.add_assoc, hk0, hk1, c1, c2, c4])
  | (refine V_sblock ?_; simp [hne, del, Nat.add_assoc, hk0, hk1, c1, c2, c4])
  | (refine V_sregion ?_; simp [hne, del, Nat.add_assoc, hk0, hk1, c1, c2, c4])
  | (refine V_skip ?_; simp only [RunK])
  | (refine CallP.fun_ (hop) (by first | rfl | fail) (by first | assumption | (simp; done) | fail) (by first | (simp [hne, del, Nat.add_assoc, hk0, hk1, c1, c2, c4]; done) | (simp [hne, del, Nat.add_assoc, hk0, hk1, c1, c2, c4]; rfl) | fail) (by first | (simp; done) | fail) (fun d hd => ?_); subst hd; (try simp [hne, del, Nat.add_assoc, hk0, hk1, c1, c2, c4]))
  | (refine CallP.fun_ (hix) (by first | rfl | fail) (by first | assumption | (simp; done) | fail) (by first | (simp [hne, del, Nat.add_assoc, hk0, hk1, c1, c2, c4]; done) | (simp [hne, del, Nat.add_assoc, hk0, hk1, c1, c2, c4]; rfl) | fail) (by first | (simp; done) | fail) (fun d hd => ?_); subst hd; (try simp [hne, del, Nat.add_assoc, hk0, hk1, c1, c2, c4]))
  | fail)
        have hi3 : i < nx + 3 := by omega
        refine LoopW.next ⟨(.mk x.op 0 0 [] [e, e2], x.form, q2, g), g1b, (by show 4 * (l.length - q2) + 2 ≤ g; omega), (by show g ≤ f; omega), h3⟩ (by show g < g + 1; omega) ?_
        refine Wk.trans (Wk.frzN 1 _) ?_
        simp [hne, Nat.add_assoc, frzN, frz1, frz_env, frz_obs, St.frz, St.frzS, frzS, fv, fzVec, fzMap, fzBox, frzObS, frz_entD, frz_rowsD, del, frz, frzOb]
        exact (Wk.cut rfl (by simp [hn, St.lp]) (by simp [wkO, St.lp, getK_cons, getK, Ob.under, D.under, under_rowsD, under_entD, hi, hi3, hne, Exp.row_eq, Exp.op, Exp.n, Exp.unit, Exp.s, Exp.args]) (by simp [wkU, St.lp, keepE, getK_cons, getK, D.under, hi, hi3, hne, Exp.row_eq, Exp.op, Exp.n, Exp.unit, Exp.s, Exp.args]) (by simp [wkE, St.lp, keepE, getK_cons, getK, hi, hi3, hne, Exp.row_eq, Exp.op, Exp.n, Exp.unit, Exp.s, Exp.args] <;> (try (intros; simp_all; done)) <;> (try (intros; omega)) <;> (try grind)))
end Go.Proofs.YtfcopibncpkdoaaDoor
namespace Go.VL
open Go
/-- A slice within a struct that came in has a length that an int holds. -/
theorem V_lenB {P : Program} {Γ : Ctx} {c : Code} {s : St} {Q : Exit → St → Prop} {x j : Nat} {cells : List U} {rows : List (List U)} (hx : getK s.env x = some (.u (.agg cells))) (hj : cells[j]? = some (.sl rows)) (h : rows.length ≤ 9223372036854775807 → V P Γ c s Q) : V P Γ c s Q :=
 V_know (fun K a w hs => by
  have hr := (hs.getK hx).2
  obtain ⟨vs, hl, _, hr⟩ := rep_uagg hr
  have hr := hr j _ hj
  generalize vs.getD j undef = v at hr
  cases hr with
  | slE => simp
  | sl _ b o sz c f hc hcx => unfold maxLen at hcx; omega) h
end Go.VL
namespace Go.Proofs.YtfcopibncpkdoaaDoor
open Go Go.VL
attribute [local simp] hcons hstep evPure opd uOf putOK St.put St.at getK binD binI binS binB nilD aggD eqUs cmpK lookD lookR rangeD Go.VL.nextD entryD keyD valU keyU lookK mkV entD_nil lookK_entD updK_entD1 updK_entD3 allUE allUE_entD makeMapD mapUpdD mapEff updK valM Key.kk shiftI arith unD convD pickD loadD cellsAt fieldAddrD fieldD indexAddrD indexD sliceD cutD lenD minmaxD nilCheckD buildD fillD cellsD isOne ones setAll mkAgg allU allocD boxD storeD St.add buildSliceD appendD rowsOf makeD setOb getK_setOb getK_del getK_cons stripL strip guardTmp entry chunks zcells valD argsV argsW argW argU1 argU0 argsU0 argsU1 calleeOf scalarD scalarU delAll effD St.effS RK_seq RK_seq_ret RK_seq_exit RK_blk RK_blk_ret RK_blk_exit RK_loop RK_loop_ret RK_loop_exit RK_done vs_seq vs_block vs_cond vs_region vs_loop vs_draw applyW mkD rdIds lentIds callOf calleeOf freeOp D.ids Op.operands Call.operands isEffOp makeIfD typeAssertD conc concs conc1 uOfV panicD IntKind.bits allU2 allU2_append List.take_of_length_le List.range_succ
attribute [local irreducible] V G H HD HD2 RunK Eff CallP CallV EndOK Fun Ret FinOK LoopI LoopW EndW
theorem parse_all {l : List Tok} (hl : TokOK l) : ∀ f, ExpOK l f ∧ PreOK l f ∧ PrimOK l f := by
 intro f
 induction f using Nat.strongRecOn with
 | _ f ih =>
  cases f with
  | zero => exact ⟨fun p form i nx _ _ h => by omega, fun p form i nx _ _ h => by omega, fun p i nx _ _ h => by omega⟩
  | succ f =>
   obtain ⟨h1, h2, h3⟩ := ih f (by omega)
   exact ⟨exp_step hl (fun g hg => (ih g (by omega)).1) h2, prefix_step hl h1 h3, primary_step hl h1⟩
def Exp.lev : Exp → Int
 | .mk _ _ _ _ args => (args.map fun e => e.lev).foldl max 0 + 1
theorem Exp.lev_eq (e : Exp) : e.lev = (e.args.map Exp.lev).foldl max 0 + 1 := by
 cases e with
 | mk op n u s args => rw [Exp.lev]; rfl
theorem foldl_max_mem : ∀ (l : List Int) (a : Int), a ≤ l.foldl max a ∧ ∀ x ∈ l, x ≤ l.foldl max a
 | [], a => ⟨by simp, fun x h => by simp at h⟩
 | b :: l, a => by
  obtain ⟨h1, h2⟩ := foldl_max_mem l (max a b)
  refine ⟨by simp only [List.foldl_cons]; omega, fun x hx => ?_⟩
  rcases List.mem_cons.1 hx with rfl | hx
  ·simp only [List.foldl_cons]; omega
  ·exact h2 x hx
theorem Exp.lev_pos (e : Exp) : 1 ≤ e.lev := by
 rw [Exp.lev_eq]
 have := (foldl_max_mem (e.args.map Exp.lev) 0).1
 omega
theorem Exp.sizeOf_args {e x : Exp} (h : x ∈ e.args) : SizeOf.sizeOf x < SizeOf.sizeOf e := by
 cases e with
 | mk op n u s args =>
  have := List.sizeOf_lt_of_mem h
  simp only [Exp.args] at this
  simp only [Exp.mk.sizeOf_spec]
  omega
theorem levels_all : ∀ (n : Nat) (e : Exp), SizeOf.sizeOf e ≤ n → e.lev ≤ 1000000000 → Fun Tryd.prog 44 [.u (.agg e.row)] (· = .u (.int .i64 e.lev)) := by
 intro n
 induction n with
 | zero =>
  intro e h
  cases e with
  | mk op n u s args => simp only [Exp.mk.sizeOf_spec] at h; omega
 | succ n ih =>
  intro e hs he
  have hx : ∀ x ∈ e.args, Fun Tryd.prog 44 [.u (.agg [.int .i64 x.op, .int .i64 x.n, .int .i64 x.unit, .str x.s, .sl (x.args.map Exp.row)])] (· = .u (.int .i64 x.lev)) := fun x hx => by
   rw [← Exp.row_eq]
   refine ih x (by have := Exp.sizeOf_args hx; omega) ?_
   have := (foldl_max_mem (e.args.map Exp.lev) 0).2 x.lev (List.mem_map.2 ⟨x, hx, rfl⟩)
   rw [Exp.lev_eq] at he
   omega
  have hlb : ∀ k, ((e.args.map Exp.lev).take k).foldl max 0 ≤ 1000000000 := fun k => by
   rw [← List.map_take]
   rw [Exp.lev_eq] at he
   have h2 : (e.args.map Exp.lev).foldl max 0 = (e.args.drop k |>.map Exp.lev).foldl max ((e.args.take k |>.map Exp.lev).foldl max 0) := by
    rw [← List.foldl_append, ← List.map_append, List.take_append_drop]
   have := (foldl_max_mem (e.args.drop k |>.map Exp.lev) ((e.args.take k |>.map Exp.lev).foldl max 0)).1
   omega
  rw [Exp.row_eq, Exp.lev_eq]
  generalize hA : e.args = A at *
  rw [Exp.lev_eq, hA] at he
  (refine Fun.of_body Tryd.func44 rfl (by simp) fun Γ hn => ?_); simp only [entry, List.zipIdx_cons, List.zipIdx_nil, List.map_cons, List.map_nil, Nat.zero_add, Tryd.ntmps44]
  refine V_lenB (x := 0) (j := 4) rfl rfl fun hl => ?_
  simp at hl
  repeat' (first
  | (refine H_cons ?_; simp)
  | (refine H_nil ?_; simp)
  | (refine V_sseq ?_; simp)
  | (refine V_sblock ?_; simp)
  | fail)
  refine V_loopF (α := { k : Nat // k ≤ A.length }) [0, 1, 2, 7, 8] (fun k => [(9, .u (.int .i64 k.1)), (3, .u (.int .i64 (((A.map Exp.lev).take k.1).foldl max 0)))]) (fun k => A.length - k.1) ⟨0, by omega⟩ ?_ ?_
  ·exact (Wk.env rfl rfl rfl (by simp [wkE, St.lp, keepE, getK_cons, getK] <;> (try (intros; simp_all; done)) <;> (try (intros; omega)) <;> (try grind)))
  rintro ⟨k, hk⟩
  simp [St.lp, St.only, keepE, getK_cons, getK]
  rcases hy : A[k]? with _ | y
  ·have hge : A.length ≤ k := by simpa using hy
   have hb := hlb k
   rw [List.take_of_length_le (by simpa using hge : (A.map Exp.lev).length ≤ k)] at hb ⊢
   have hb0 := (foldl_max_mem (A.map Exp.lev) 0).1
   generalize (A.map Exp.lev).foldl max 0 = M at *
   repeat' (first
  | (refine H_cons ?_; simp [hy])
  | (refine H_nil ?_; simp [hy])
  | (refine ⟨by omega, ?_⟩)
  | (refine V_sseq ?_; simp [hy])
  | (refine V_ret ?_; simp only [RunK])
  | (refine V_exit ?_; simp [RunK])
  | (intro hc <;> (try (exfalso; omega)))
  | fail)
   (refine EndOK.val (.inr rfl) ?_; simp [resD, oneOrTup, pureD, Tryd.results44])
  ·have hlt : k < A.length := (List.getElem?_eq_some_iff.1 hy).1
   have hfn := hx y (List.mem_of_getElem? hy)
   have ht : ((A.map Exp.lev).take (k + 1)).foldl max 0 = max (((A.map Exp.lev).take k).foldl max 0) y.lev := by
    rw [List.take_add_one, List.getElem?_map, hy]
    simp
   have hb := hlb (k + 1)
   rw [ht] at hb
   have hb0 := (foldl_max_mem ((A.map Exp.lev).take k) 0).1
   generalize hM : ((A.map Exp.lev).take k).foldl max 0 = M at *
   have hyp := y.lev_pos
   repeat' (first
  | (refine H_cons ?_; simp [hy, Exp.row_eq])
  | (refine H_nil ?_; simp [hy, Exp.row_eq])
  | (refine ⟨by omega, ?_⟩)
  | (refine V_sseq ?_; simp [hy, Exp.row_eq])
  | (refine V_sregion ?_; simp [hy, Exp.row_eq])
  | (refine V_skip ?_; simp only [RunK])
  | (refine ⟨?_, by omega⟩)
  | (intro hc <;> (try (exfalso; omega)))
  | (refine CallP.fun_ (hfn) (by first | rfl | fail) (by first | assumption | (simp; done) | fail) (by first | (simp [hy, Exp.row_eq]; done) | (simp [hy, Exp.row_eq]; rfl) | fail) (by first | (simp; done) | fail) (fun d hd => ?_); subst hd; (try simp [hy, Exp.row_eq]))
  | fail)
   refine LoopW.next ⟨k + 1, hlt⟩ (by show A.length - (k + 1) < A.length - k; omega) ?_
   exact (Wk.cut rfl (by simp [hn, St.lp]) (by simp [wkO, St.lp, getK_cons, getK, Ob.under, D.under, under_rowsD, under_entD, ht]) (by simp [wkU, St.lp, keepE, getK_cons, getK, D.under, ht]) (by simp [wkE, St.lp, keepE, getK_cons, getK, ht] <;> (try (intros; simp_all; done)) <;> (try (intros; omega)) <;> (try grind)))
end Go.Proofs.YtfcopibncpkdoaaDoor
namespace Go.Proofs.YtfcopibncpkdoaaDoor
open Go Go.VL
attribute [local simp] HS hcons hstep evPure opd uOf putOK St.put St.at getK binD binI binS binB nilD aggD eqUs cmpK lookD lookR rangeD Go.VL.nextD entryD keyD valU keyU lookK mkV entD_nil lookK_entD updK_entD1 updK_entD3 allUE allUE_entD makeMapD mapUpdD mapEff updK valM Key.kk shiftI arith unD convD pickD loadD cellsAt fieldAddrD fieldD indexAddrD indexD sliceD cutD lenD minmaxD nilCheckD buildD fillD cellsD isOne ones setAll mkAgg allU allocD boxD storeD St.add buildSliceD appendD rowsOf makeD setOb getK_setOb getK_del getK_cons stripL strip guardTmp entry chunks zcells valD argsV argsW argW argU1 argU0 argsU0 argsU1 calleeOf scalarD scalarU delAll effD St.effS RK_seq RK_seq_ret RK_seq_exit RK_blk RK_blk_ret RK_blk_exit RK_loop RK_loop_ret RK_loop_exit RK_done vs_seq vs_block vs_cond vs_region vs_loop vs_draw applyW mkD rdIds lentIds callOf calleeOf freeOp D.ids Op.operands Call.operands isEffOp makeIfD typeAssertD conc concs conc1 uOfV panicD IntKind.bits allU2 allU2_append List.take_of_length_le List.range_succ
attribute [local irreducible] V G H HD HD2 HD4 HD4h RetX RunK Eff CallP CallV EndOK Fun Ret FinOK LoopI LoopW EndW
theorem open_ok (s : List UInt8) (l : List Tok) (nx : Nat) (h : lexL s = .ok l) :
  RetX Tryd.prog 38 [.u (.str s)] [] nx (fun r o n => r = .val (.tup [.ptr nx 0, .u (.int .i64 0), .u (.int .i64 0)]) ∧ o = [(nx, pOb l 0)] ∧ n = nx + 1) := by
 have h1 := lex_fun s
 rw [h] at h1
 simp only [lexOut] at h1
 (refine RetX.of_bodyW Tryd.func38 rfl (by simp) fun Γ hn hpan => ?_); simp only [entry, List.zipIdx_cons, List.zipIdx_nil, List.map_cons, List.map_nil, Nat.zero_add, Tryd.ntmps38]
 repeat' (first
  | (refine H_cons ?_; simp)
  | (refine H_nil ?_; simp)
  | (refine V_sseq ?_; simp)
  | (refine V_ret ?_; simp only [RunK])
  | (refine CallP.fun_ (h1) (by first | rfl | fail) (by first | assumption | (simp; done) | fail) (by first | (simp; done) | (simp; rfl) | fail) (by first | (simp; done) | fail) (fun d hd => ?_); subst hd; (try simp))
  | fail)
 (refine EndW.here ?_; (first | (refine EndOK.fin (.inr rfl) ?_) | (refine EndOK.fin (.inl rfl) ?_)); simp [resD, oneOrTup, Tryd.results38]; refine FinOK.here (by simp) ?_; try simp)
theorem open_err (s : List UInt8) (p : Nat) (e : Int) (nx : Nat) (h : lexL s = .error (p, e)) :
  RetX Tryd.prog 38 [.u (.str s)] [] nx (fun r o n => r = .val (.tup [.ptr nx 0, .u (.int .i64 p), .u (.int .i64 e)]) ∧ o = [(nx, pOb [] 0)] ∧ n = nx + 1) := by
 have h1 := lex_fun s
 rw [h] at h1
 simp only [lexOut] at h1
 (refine RetX.of_bodyW Tryd.func38 rfl (by simp) fun Γ hn hpan => ?_); simp only [entry, List.zipIdx_cons, List.zipIdx_nil, List.map_cons, List.map_nil, Nat.zero_add, Tryd.ntmps38]
 repeat' (first
  | (refine H_cons ?_; simp)
  | (refine H_nil ?_; simp)
  | (refine V_sseq ?_; simp)
  | (refine V_ret ?_; simp only [RunK])
  | (refine CallP.fun_ (h1) (by first | rfl | fail) (by first | assumption | (simp; done) | fail) (by first | (simp; done) | (simp; rfl) | fail) (by first | (simp; done) | fail) (fun d hd => ?_); subst hd; (try simp))
  | fail)
 (refine EndW.here ?_; (first | (refine EndOK.fin (.inr rfl) ?_) | (refine EndOK.fin (.inl rfl) ?_)); simp [resD, oneOrTup, Tryd.results38]; refine FinOK.here (by simp) ?_; try simp)
theorem caught_none (i j nx : Nat) (hi : i < nx) (hj : j < nx) (hij : i ≠ j) (p e : Int) :
  RetX Tryd.prog 40 [.u (.oth .nilIface), .ptr i 0, .ptr j 0] [(i, .box [.u (.int .i64 p)]), (j, .box [.u (.int .i64 e)])] nx
   (fun r o n => r = .val (.u (.bool false)) ∧ o = [(i, .box [.u (.int .i64 p)]), (j, .box [.u (.int .i64 e)])] ∧ n = nx) := by
 have hne := ne_facts hi
 have hne2 := ne_facts hj
 (refine RetX.of_bodyW Tryd.func40 rfl (by simp) fun Γ hn hpan => ?_); simp only [entry, List.zipIdx_cons, List.zipIdx_nil, List.map_cons, List.map_nil, Nat.zero_add, Tryd.ntmps40]
 repeat' (first
  | (refine H_cons ?_; simp [hne, hne2, hij, Ne.symm hij])
  | (refine H_nil ?_; simp [hne, hne2, hij, Ne.symm hij])
  | (refine V_sseq ?_; simp [hne, hne2, hij, Ne.symm hij])
  | fail)
 refine ⟨[.int .i64 0, .int .i64 0], rfl, ?_⟩
 repeat' (first
  | (refine H_cons ?_; simp [hne, hne2, hij, Ne.symm hij])
  | (refine H_nil ?_; simp [hne, hne2, hij, Ne.symm hij])
  | (refine V_sseq ?_; simp [hne, hne2, hij, Ne.symm hij])
  | (refine V_scond ?_; simp [hne, hne2, hij, Ne.symm hij])
  | (refine V_ret ?_; simp only [RunK])
  | (refine V_skip ?_; simp only [RunK])
  | fail)
 (refine EndW.here ?_; (first | (refine EndOK.fin (.inr rfl) ?_) | (refine EndOK.fin (.inl rfl) ?_)); simp [resD, oneOrTup, Tryd.results40, hne, hne2, hij, Ne.symm hij, hi, hj]; refine FinOK.cut [(i, .box [.u (.int .i64 p)]), (j, .box [.u (.int .i64 e)])] (nx) (by simp [getK_cons, getK, getK_append, getK_del, Ob.under, D.under, under_rowsD, under_entD, hne, hne2, hij, Ne.symm hij, hi, hj] <;> omega) (by simp [D.under]) (by simp [hn]) ?_; try simp)
theorem caught_stop (i j nx : Nat) (hi : i < nx) (hj : j < nx) (hij : i ≠ j) (p e pos err : Int) :
  RetX Tryd.prog 40 [.u (.oth (.iface 119 (.agg #[.int .i64 pos, .int .i64 err]))), .ptr i 0, .ptr j 0] [(i, .box [.u (.int .i64 p)]), (j, .box [.u (.int .i64 e)])] nx
   (fun r o n => r = .val (.u (.bool true)) ∧ o = [(i, .box [.u (.int .i64 pos)]), (j, .box [.u (.int .i64 err)])] ∧ n = nx) := by
 have hne := ne_facts hi
 have hne2 := ne_facts hj
 (refine RetX.of_bodyW Tryd.func40 rfl (by simp) fun Γ hn hpan => ?_); simp only [entry, List.zipIdx_cons, List.zipIdx_nil, List.map_cons, List.map_nil, Nat.zero_add, Tryd.ntmps40]
 repeat' (first
  | (refine H_cons ?_; simp [hne, hne2, hij, Ne.symm hij])
  | (refine HD4_val rfl ?_; simp [hne, hne2, hij, Ne.symm hij])
  | (refine HD4_chg rfl ?_; simp [hne, hne2, hij, Ne.symm hij])
  | (refine H_nil ?_; simp [hne, hne2, hij, Ne.symm hij])
  | (refine V_sseq ?_; simp [hne, hne2, hij, Ne.symm hij])
  | (refine V_scond ?_; simp [hne, hne2, hij, Ne.symm hij])
  | (refine HD4_nil (hC _ (okP4_ren [i, j] nx (by simp <;> omega) (by simp <;> omega) (by apply Exists.intro; apply And.intro; (focus (repeat' (first | exact KF.nil | exact KL.nil | apply KF.cons | apply KL.cons 0 rfl | apply KL.cons 1 rfl | apply KL.cons 2 rfl | apply KL.cons 3 rfl | apply KL.cons 4 rfl | apply KL.cons 5 rfl | apply KL.cons 6 rfl | apply KL.cons 7 rfl | apply KL.cons 8 rfl | apply KL.cons 9 rfl))); kernel_rfl))) (hk _ ?_); clear hC hk C k; simp only [RunK])
  | (refine V_drawX rfl (by kernel_rfl) (by first | (simp [hn]; done) | (simp [hn]; omega) | fail) fun C k hC hk => ?_; simp [hne, hne2, hij, Ne.symm hij])
  | (refine V_ret ?_; simp only [RunK])
  | (refine V_skip ?_; simp only [RunK])
  | fail)
 (refine EndW.here ?_; (first | (refine EndOK.fin (.inr rfl) ?_) | (refine EndOK.fin (.inl rfl) ?_)); simp [resD, oneOrTup, Tryd.results40, hne, hne2, hij, Ne.symm hij, hi, hj]; refine FinOK.cut [(i, .box [.u (.int .i64 pos)]), (j, .box [.u (.int .i64 err)])] (nx) (by simp [getK_cons, getK, getK_append, getK_del, Ob.under, D.under, under_rowsD, under_entD, hne, hne2, hij, Ne.symm hij, hi, hj] <;> omega) (by simp [D.under]) (by simp [hn]) ?_; try simp)
theorem pdef_ret (i j q nx : Nat) (hi : i < nx) (hj : j < nx) (hq : q < nx) (hij : i ≠ j) (hiq : i ≠ q) (hjq : j ≠ q) (p e : Int) (cells : List U) :
  RetDf Tryd.prog 39 [.ptr i 0, .ptr j 0, .ptr q 0] [(i, .box [.u (.int .i64 p)]), (j, .box [.u (.int .i64 e)]), (q, .box (cells.map .u))] nx .returning
   (fun u o n => settle u = .returning ∧ n = nx ∧ o = [(i, .box [.u (.int .i64 p)]), (j, .box [.u (.int .i64 e)]), (q, .box (cells.map .u))]) := by
 have hne := ne_facts hi
 have hne2 := ne_facts hj
 have hne3 := ne_facts hq
 have hc0 := caught_none i j nx hi hj hij p e
 refine RetDf.of_body Tryd.func39 rfl (by simp) (by simp) rfl fun Γ hn => ?_
 simp [entry, recU, Tryd.ntmps39]
 refine CallP.x2 hc0 (by simp [getK]) (by simp [getK, hij, Ne.symm hij]) hij rfl rfl (by simp) (by simp) (fun d o1 nx' hnx h => ?_) (fun ch o1 nx' hnx h => by cases h.1)
 obtain ⟨h1, rfl, h4⟩ := h
 have h4 := h4.symm
 subst h4
 cases h1
 simp [del, hij, Ne.symm hij, hiq, hjq, Ne.symm hiq, Ne.symm hjq]
 repeat' (first
  | (refine V_scond ?_; simp [hij, hiq, hjq])
  | (refine V_skip ?_; simp only [RunK])
  | fail)
 (refine ⟨by simp, { n := _, env := [], obs := [(i, .box [.u (.int .i64 p)]), (j, .box [.u (.int .i64 e)]), (q, .box (cells.map .u))], next := nx }, (Wk.cut rfl (by simp [hn]) (by simp [wkO, getK_cons, getK, getK_append, getK_del, Ob.under, D.under, under_rowsD, under_entD, hi, hj, hq, hne, hne2, hne3, hij, hiq, hjq, Ne.symm hij, Ne.symm hiq, Ne.symm hjq]) (by simp [wkU, keepE, getK_cons, getK, D.under, hi, hj, hq, hne, hne2, hne3, hij, hiq, hjq, Ne.symm hij, Ne.symm hiq, Ne.symm hjq]) (by simp [wkE, keepE, getK_cons, getK, hi, hj, hq, hne, hne2, hne3, hij, hiq, hjq, Ne.symm hij, Ne.symm hiq, Ne.symm hjq])), by simp [hn], ?_⟩; try simp)
 all_goals rfl
abbrev expOb0 : Ob := .box [.u (.int .i64 0), .u (.int .i64 0), .u (.int .i64 0), .u (.str []), .u .nil]
theorem pdef_pan (i j q nx : Nat) (hi : i < nx) (hj : j < nx) (hq : q < nx) (hij : i ≠ j) (hiq : i ≠ q) (hjq : j ≠ q) (p e pos err : Int) (a b c : Int) (t : List UInt8) (g : U) :
  RetDf Tryd.prog 39 [.ptr i 0, .ptr j 0, .ptr q 0] [(i, .box [.u (.int .i64 p)]), (j, .box [.u (.int .i64 e)]), (q, .box [.u (.int .i64 a), .u (.int .i64 b), .u (.int .i64 c), .u (.str t), .u g])] nx (.panicking (chP pos err))
   (fun u o n => settle u = .returning ∧ n = nx ∧ o = [(i, .box [.u (.int .i64 pos)]), (j, .box [.u (.int .i64 err)]), (q, expOb0)]) := by
 have hne := ne_facts hi
 have hne2 := ne_facts hj
 have hne3 := ne_facts hq
 have hc0 := caught_stop i j nx hi hj hij p e pos err
 refine RetDf.of_body Tryd.func39 rfl (by simp) (by simp) rfl fun Γ hn => ?_
 simp [entry, recU, chP, Tryd.ntmps39]
 refine CallP.x2 hc0 (by simp [getK]) (by simp [getK, hij, Ne.symm hij]) hij rfl rfl (by simp) (by simp) (fun d o1 nx' hnx h => ?_) (fun ch o1 nx' hnx h => by cases h.1)
 obtain ⟨h1, rfl, h4⟩ := h
 have h4 := h4.symm
 subst h4
 cases h1
 simp [del, hij, Ne.symm hij, hiq, hjq, Ne.symm hiq, Ne.symm hjq]
 repeat' (first
  | (refine H_cons ?_; simp [hij, hiq, hjq])
  | (refine H_nil ?_; simp [hij, hiq, hjq])
  | (refine V_scond ?_; simp [hij, hiq, hjq])
  | (refine V_sregion ?_; simp [hij, hiq, hjq])
  | fail)
 (refine ⟨by simp, { n := _, env := [], obs := [(i, .box [.u (.int .i64 pos)]), (j, .box [.u (.int .i64 err)]), (q, expOb0)], next := nx }, (Wk.cut rfl (by simp [hn]) (by simp [wkO, getK_cons, getK, getK_append, getK_del, Ob.under, D.under, under_rowsD, under_entD, hi, hj, hq, hne, hne2, hne3, hij, hiq, hjq, Ne.symm hij, Ne.symm hiq, Ne.symm hjq]) (by simp [wkU, keepE, getK_cons, getK, D.under, hi, hj, hq, hne, hne2, hne3, hij, hiq, hjq, Ne.symm hij, Ne.symm hiq, Ne.symm hjq]) (by simp [wkE, keepE, getK_cons, getK, hi, hj, hq, hne, hne2, hne3, hij, hiq, hjq, Ne.symm hij, Ne.symm hiq, Ne.symm hjq])), by simp [hn], ?_⟩; try simp)
 all_goals rfl
theorem lexF_ok {s : List UInt8} : ∀ (f p : Nat) (l : List Tok), lexF f s p = .ok l → s.length < p + f → p ≤ s.length →
  (∀ (i : Nat) (t : Tok), l[i]? = some t → t.kind ≠ 0 → i + 1 < l.length) ∧ l.length ≤ s.length - p + 1 ∧ 0 < l.length
 | 0, p, l, _, h2, h3 => by omega
 | f + 1, p, l, h, h2, h3 => by
  rw [lexF] at h
  have hle := spanL_le isBlank (s.drop p)
  rw [List.length_drop] at hle
  split at h
  ·cases h
   refine ⟨fun i t hi hk => ?_, by simp, by simp⟩
   rcases i with _ | i
   ·simp at hi
    subst hi
    exact absurd rfl hk
   ·simp at hi
  ·rename_i c r hd
   have hdl : (s.drop (p + spanL isBlank (s.drop p))).length = r.length + 1 := by rw [hd]; rfl
   rw [List.length_drop] at hdl
   split at h
   ·cases h
   ·rename_i t ht
    obtain ⟨ht1, ht2⟩ := nextO_text ht
    simp only [List.length_cons] at ht2
    split at h
    ·cases h
    ·rename_i l' hl'
     cases h
     obtain ⟨g1, g2, g3⟩ := lexF_ok f _ l' hl' (by omega) (by omega)
     refine ⟨fun i t' hi hk => ?_, by simp only [List.length_cons]; omega, by simp⟩
     rcases i with _ | i
     ·simp; exact g3
     ·simp only [List.getElem?_cons_succ] at hi
      have := g1 i t' hi hk
      simp only [List.length_cons]
      omega
theorem lexL_ok {s : List UInt8} {l : List Tok} (h : lexL s = .ok l) : TokOK l ∧ l.length ≤ 2001 ∧ 0 < l.length := by
 unfold lexL at h
 split at h
 ·cases h
 ·obtain ⟨g1, g2, g3⟩ := lexF_ok _ _ _ h (by omega) (by omega)
  exact ⟨⟨g1, by omega⟩, by omega, g3⟩
theorem Exp.lev_mk {op n u : Int} {s : List UInt8} {args : List Exp} {B : Int} (h : ∀ x ∈ args, x.lev ≤ B) (h0 : 0 ≤ B) : (Exp.mk op n u s args).lev ≤ B + 1 := by
 rw [Exp.lev_eq]
 simp only [Exp.args]
 have : ∀ (l : List Int) (a : Int), a ≤ B → (∀ x ∈ l, x ≤ B) → l.foldl max a ≤ B := by
  intro l
  induction l with
  | nil => intro a ha _; exact ha
  | cons b l ih => intro a ha hl; exact ih _ (by have := hl b (by simp); omega) fun x hx => hl x (by simp [hx])
 have := this (args.map Exp.lev) 0 h0 (fun x hx => by obtain ⟨y, hy, rfl⟩ := List.mem_map.1 hx; exact h y hy)
 omega
theorem parse_lev {l : List Tok} : ∀ (f : Nat),
  (∀ p form e q, expP l f p form = .ok e q → e.lev ≤ f * f + 1) ∧
  (∀ form e own p e' q, loopP l f form e own p = .ok e' q → e'.lev ≤ max e.lev (f * f + 1) + f) ∧
  (∀ p form e q, prefixP l f p form = .ok e q → e.1.lev ≤ f * f + 1) ∧
  (∀ p e q, primaryP l f p = .ok e q → e.lev ≤ f * f + 1)
 | 0 => ⟨fun _ _ _ _ h => by simp [expP] at h, fun _ _ _ _ _ _ h => by simp [loopP] at h, fun _ _ _ _ h => by simp [prefixP] at h, fun _ _ _ h => by simp [primaryP] at h⟩
 | f + 1 => by
  obtain ⟨he, hlo, hpr, hpm⟩ := parse_lev f
  have hsq : ((f + 1 : Nat) : Int) * ((f + 1 : Nat) : Int) = (f : Int) * f + 2 * f + 1 := by
   rw [show ((f + 1 : Nat) : Int) = (f : Int) + 1 by omega, Int.add_mul, Int.mul_add]; omega
  rw [hsq]
  have h0 : (0 : Int) ≤ (f : Int) * f := Int.mul_nonneg (by omega) (by omega)
  generalize hF : (f : Int) * f = F at *
  refine ⟨fun p form e q h => ?_, fun form e own p e' q h => ?_, fun p form e q h => ?_, fun p e q h => ?_⟩
  ·rw [expP] at h
   obtain ⟨a, r, h1, h2⟩ := PR.bind_out h
   have g1 := hpr _ _ _ _ h1
   have g2 := hlo _ _ _ _ _ _ h2
   omega
  ·rw [loopP] at h
   split at h
   ·cases h; omega
   ·split at h
    ·cases h; omega
    ·obtain ⟨a, r, h1, h2⟩ := PR.bind_out h
     have g1 := he _ _ _ _ h1
     have g2 := hlo _ _ _ _ _ _ h2
     rename_i x _ _
     have g3 := Exp.lev_mk (op := x.op) (n := 0) (u := 0) (s := []) (args := [e, a]) (B := max e.lev (F + 1)) (by
      intro y hy
      simp only [List.mem_cons, List.not_mem_nil, or_false] at hy
      rcases hy with rfl | rfl <;> omega) (by omega)
     omega
  ·rw [prefixP] at h
   split at h
   ·obtain ⟨a, r, h1, h⟩ := PR.bind_out h
    obtain ⟨_, r2, h2, h⟩ := PR.bind_out h
    obtain ⟨b, r3, h3, h⟩ := PR.bind_out h
    obtain ⟨_, r4, h4, h⟩ := PR.bind_out h
    obtain ⟨c, r5, h5, h⟩ := PR.bind_out h
    cases h
    have g1 := he _ _ _ _ h1
    have g3 := he _ _ _ _ h3
    have g5 := he _ _ _ _ h5
    have := Exp.lev_mk (op := 13) (n := 0) (u := 0) (s := []) (args := [a, b, c]) (B := F + 1) (by
     intro y hy
     simp only [List.mem_cons, List.not_mem_nil, or_false] at hy
     rcases hy with rfl | rfl | rfl <;> omega) (by omega)
    simp only
    omega
   ·split at h
    ·obtain ⟨a, r, h1, h⟩ := PR.bind_out h
     cases h
     have g1 := he _ _ _ _ h1
     have := Exp.lev_mk (op := 12) (n := 0) (u := 0) (s := []) (args := [a]) (B := F + 1) (by
      intro y hy
      simp only [List.mem_cons, List.not_mem_nil, or_false] at hy
      rcases hy with rfl; omega) (by omega)
     simp only
     omega
    ·obtain ⟨a, r, h1, h⟩ := PR.bind_out h
     cases h
     have g1 := hpm _ _ _ h1
     simp only
     omega
  ·have leaf : ∀ (op n u : Int) (s : List UInt8), (Exp.mk op n u s []).lev ≤ F + 2 * f + 1 + 1 := fun op n u s => by
    have := Exp.lev_mk (op := op) (n := n) (u := u) (s := s) (args := []) (B := 0) (by simp) (by omega)
    omega
   rw [primaryP] at h
   split at h
   ·cases h
   ·split at h
    ·obtain ⟨a, r, h1, h⟩ := PR.bind_out h
     cases h; exact leaf ..
    split at h
    ·cases h; exact leaf ..
    split at h
    ·cases h; exact leaf ..
    split at h
    ·obtain ⟨_, r2, h2, h⟩ := PR.bind_out h
     obtain ⟨a, r3, h3, h⟩ := PR.bind_out h
     obtain ⟨_, r4, h4, h⟩ := PR.bind_out h
     obtain ⟨b, r5, h5, h⟩ := PR.bind_out h
     obtain ⟨_, r6, h6, h⟩ := PR.bind_out h
     have g3 := he _ _ _ _ h3
     have g5 := he _ _ _ _ h5
     have := Exp.lev_mk (op := if isB l p [109, 97, 120] = true then 7 else 6) (n := 0) (u := 0) (s := []) (args := [a, b]) (B := F + 1) (by
      intro y hy
      simp only [List.mem_cons, List.not_mem_nil, or_false] at hy
      rcases hy with rfl | rfl <;> omega) (by omega)
     cases h
     omega
    split at h
    ·obtain ⟨a, r3, h3, h⟩ := PR.bind_out h
     obtain ⟨_, r4, h4, h⟩ := PR.bind_out h
     cases h
     have g3 := he _ _ _ _ h3
     omega
    split at h
    ·cases h; exact leaf ..
    ·cases h
def kindAt (l : List Tok) (p : Nat) : Int := match l[p]? with | some t => t.kind | none => 0
def zeroE : Exp := .mk 0 0 0 [] []
/-- What ParseExp returns: the expression, the place, the error. -/
def parseX (s : List UInt8) : Exp × Int × Int := match lexL s with
 | .error (p, e) => (zeroE, p, e)
 | .ok l => match expP l (4 * l.length + 3) 0 0 with
  | .stop pos e => (zeroE, pos, e)
  | .ok y q => if kindAt l q ≠ 0 then (zeroE, posAt l q, 12) else if 12 < y.lev then (zeroE, posAt l q, 6) else (y, 0, 0)
theorem nextO_err {c : UInt8} {r : List UInt8} {e : Int} (h : nextO (c :: r) = .error e) : e ≠ 0 := by
 unfold nextO at h
 simp only at h
 split at h
 ·split at h <;> cases h
  omega
 ·split at h
  ·split at h <;> cases h
   omega
  ·split at h <;> cases h
   omega
theorem lexF_err {s : List UInt8} : ∀ (f p : Nat) (q : Nat) (e : Int), lexF f s p = .error (q, e) → p ≤ s.length → e ≠ 0 ∧ q ≤ s.length
 | 0, p, q, e, h, _ => by simp [lexF] at h
 | f + 1, p, q, e, h, h3 => by
  rw [lexF] at h
  have hle := spanL_le isBlank (s.drop p)
  rw [List.length_drop] at hle
  split at h
  ·cases h
  ·rename_i c r hd
   have hdl : (s.drop (p + spanL isBlank (s.drop p))).length = r.length + 1 := by rw [hd]; rfl
   rw [List.length_drop] at hdl
   split at h
   ·rename_i ht
    cases h
    exact ⟨nextO_err ht, by omega⟩
   ·rename_i t ht
    obtain ⟨ht1, ht2⟩ := nextO_text ht
    simp only [List.length_cons] at ht2
    split at h
    ·rename_i x hx
     cases h
     exact lexF_err f _ q e hx (by omega)
    ·cases h
theorem lexL_err {s : List UInt8} {q : Nat} {e : Int} (h : lexL s = .error (q, e)) : e ≠ 0 ∧ q ≤ s.length := by
 unfold lexL at h
 split at h
 ·cases h; exact ⟨by decide, by omega⟩
 ·exact lexF_err _ _ _ _ h (by omega)
def xOut (r : Exp × Int × Int) : D := .tup [.u (.agg r.1.row), .u (.int .i64 r.2.1), .u (.int .i64 r.2.2)]
theorem parseExp_ret (s : List UInt8) : RetX Tryd.prog 24 [.u (.str s)] [] 0 (fun r o n => r = .val (xOut (parseX s))) := by
 unfold parseX
 cases hlx : lexL s with
 | error pe =>
  obtain ⟨p, e⟩ := pe
  have ho := fun nx => open_err s p e nx hlx
  have he := (lexL_err hlx).1
  simp only
  (refine RetX.of_bodyD Tryd.func24 rfl (by simp) fun Γ hn hdfr hpan hesc => ?_); simp only [entry, List.zipIdx_cons, List.zipIdx_nil, List.map_cons, List.map_nil, Nat.zero_add, Tryd.ntmps24]
  repeat' (first
  | (refine H_cons ?_; simp [he])
  | (refine HD4_val rfl ?_; simp [he])
  | (refine HD4_chg rfl ?_; simp [he])
  | (refine H_nil ?_; simp [he])
  | (refine V_sseq ?_; simp [he])
  | (refine V_scond ?_; simp [he])
  | (refine HD4_nil (hC _ (by kernel_rfl)) (hk _ ?_); clear hC hk C k; simp only [RunK])
  | (refine V_drawX rfl (by kernel_rfl) (by first | (simp [hn]; done) | (simp [hn]; omega) | fail) fun C k hC hk => ?_; simp [he])
  | (refine V_ret ?_; simp only [RunK])
  | (refine CallP.okL (ho _) (by first | (simp [he, getK_cons, getK, getK_append, getK_del, getK_setOb, applyW, del]; done) | fail) (by rfl) (by first | assumption | (simp; done) | fail) (by rfl) (by simp) ?_; (try simp [he, delL, del]))
  | fail)
  refine EndW.norm ?_
  simp [St.norm, normOb, normD, normU, norm1]
  (refine EndW.here ?_; (first | (refine EndOK.fin (.inr rfl) ?_) | (refine EndOK.fin (.inl rfl) ?_)); simp [resD, oneOrTup, Tryd.results24]; refine FinOK.here (by simp) ?_; try simp)
  simp [xOut, Exp.row, zeroE]
 | ok l =>
  obtain ⟨hl, hl2, hl0⟩ := lexL_ok hlx
  have ho := fun nx => open_ok s l nx hlx
  have hE := (parse_all hl (4 * l.length + 3)).1 0 0 3 4 (by omega) hl0 (by omega) (by omega) (by omega)
  simp only
  cases hr : expP l (4 * l.length + 3) 0 0 with
  | stop pos e =>
   simp only [hr] at hE ⊢
   (refine RetX.of_bodyD Tryd.func24 rfl (by simp) fun Γ hn hdfr hpan hesc => ?_); simp only [entry, List.zipIdx_cons, List.zipIdx_nil, List.map_cons, List.map_nil, Nat.zero_add, Tryd.ntmps24]
   rw [hold_defer]
   repeat' (first
  | (refine H_cons ?_; simp)
  | (refine H_nil ?_; simp)
  | (refine V_sseq ?_; simp)
  | (refine V_scond ?_; simp)
  | (refine V_skip ?_; simp only [RunK])
  | (refine CallP.okL (ho _) (by first | (simp [getK_cons, getK, getK_append, getK_del, getK_setOb, applyW, del]; done) | fail) (by rfl) (by first | assumption | (simp; done) | fail) (by rfl) (by simp) ?_; (try simp [delL, del]))
  | fail)
   refine V_defer hesc hdfr rfl (by simp) ?_
   have hn0 := hn
   have hpan0 := hpan
   intro Γ' hn hpan
   simp
   repeat' (first
  | (refine H_cons ?_; simp)
  | (refine V_sseq ?_; simp)
  | (refine CallP.pan1 (hE) (by first | (simp [getK_cons, getK, getK_append, getK_del]; done) | fail) (by rfl) (by first | assumption | (simp; done) | fail) (by rfl) (by simp) ?_; rintro ob' ⟨q', rfl⟩; refine ⟨_, Wk.refl _, ?_⟩)
  | fail)
   refine hpan _ _ ?_
   refine LeaveD.of [(1, .box [.u (.int .i64 0)]), (2, .box [.u (.int .i64 0)]), (0, expOb0)] (by simp [getK_cons, getK, getK_append, getK_del]) (pdef_pan 1 2 0 _ (by simp) (by simp) (by simp) (by decide) (by decide) (by decide) 0 0 _ _ 0 0 0 [] .nil) ?_
   simp only [show Γ.base.n0 = 0 from hn0]
   simp [delL, del]
   refine EndW.norm ?_
   simp [St.norm, normOb, normD, normU, norm1]
   (refine EndW.here ?_; (first | (refine EndOK.fin (.inr rfl) ?_) | (refine EndOK.fin (.inl rfl) ?_)); simp [resD, oneOrTup, Tryd.results24]; refine FinOK.here (by simp) ?_; try simp)
   simp [xOut, Exp.row, zeroE]
  | ok y q =>
   have hEx := exp_ok hE hr
   obtain ⟨g0a, g0b⟩ := (parse_le hl _).1 _ _ _ _ hr hl0
   have hlev := (parse_lev (l := l) _).1 _ _ _ _ hr
   have hlev2 : y.lev ≤ 1000000000 := by
    have h1 : ((4 * l.length + 3 : Nat) : Int) * ((4 * l.length + 3 : Nat) : Int) ≤ 8007 * 8007 := Int.mul_le_mul (by omega) (by omega) (by omega) (by omega)
    omega
   have hlv := levels_all (SizeOf.sizeOf y) y (Nat.le_refl _) hlev2
   rw [Exp.row_eq] at hlv
   obtain ⟨t, ht⟩ : ∃ t, l[q]? = some t := ⟨_, List.getElem?_eq_getElem g0b⟩
   have hnx := pnext_fun l q t ht hl.len
   have hka : kindAt l q = t.kind := by unfold kindAt; rw [ht]
   have hpa : posAt l q = t.pos := by unfold posAt; rw [ht]
   simp only [hka, hpa]
   by_cases hk : t.kind = 0
   ·have hc1 := fun nx (h : 3 < nx) => check_ok l q 12 3 nx h
    rw [if_neg (by simp [hk])]
    by_cases hv : 12 < y.lev
    ·have hc2 := fun nx (h : 3 < nx) => check_pan l q t 6 3 nx h ht hl.len
     have hv2 : ¬ y.lev ≤ 12 := by omega
     rw [if_pos hv]
     (refine RetX.of_bodyD Tryd.func24 rfl (by simp) fun Γ hn hdfr hpan hesc => ?_); simp only [entry, List.zipIdx_cons, List.zipIdx_nil, List.map_cons, List.map_nil, Nat.zero_add, Tryd.ntmps24]
     rw [hold_defer]
     repeat' (first
  | (refine H_cons ?_; simp)
  | (refine H_nil ?_; simp)
  | (refine V_sseq ?_; simp)
  | (refine V_scond ?_; simp)
  | (refine V_skip ?_; simp only [RunK])
  | (refine CallP.okL (ho _) (by first | (simp [getK_cons, getK, getK_append, getK_del, getK_setOb, applyW, del]; done) | fail) (by rfl) (by first | assumption | (simp; done) | fail) (by rfl) (by simp) ?_; (try simp [delL, del]))
  | fail)
     refine V_defer hesc hdfr rfl (by simp) ?_
     have hn0 := hn
     have hpan0 := hpan
     intro Γ' hn hpan
     simp
     repeat' (first
  | (refine H_cons ?_; simp [hk, hv, hv2, del])
  | (refine H_nil ?_; simp [hk, hv, hv2, del])
  | (refine V_sseq ?_; simp [hk, hv, hv2, del])
  | (refine CallP.fun_ (hlv) (by first | rfl | fail) (by first | assumption | (simp; done) | fail) (by first | (simp [hk, hv, hv2, del]; done) | (simp [hk, hv, hv2, del]; rfl) | fail) (by first | (simp; done) | fail) (fun d hd => ?_); subst hd; (try simp [hk, hv, hv2, del]))
  | (refine CallP.fun_ (hnx) (by first | rfl | fail) (by first | assumption | (simp; done) | fail) (by first | (simp [hk, hv, hv2, del]; done) | (simp [hk, hv, hv2, del]; rfl) | fail) (by first | (simp; done) | fail) (fun d hd => ?_); subst hd; (try simp [hk, hv, hv2, del]))
  | (refine CallP.ok1 (hEx) (by first | (simp [hk, hv, hv2, del, getK_cons, getK, getK_append, getK_del]; done) | fail) (by rfl) (by first | assumption | (simp; done) | fail) (by rfl) (by simp) ?_; (try simp [hk, hv, hv2, del]))
  | (refine CallP.ok1 (hc1 _ (by simp)) (by first | (simp [hk, hv, hv2, del, getK_cons, getK, getK_append, getK_del]; done) | fail) (by rfl) (by first | assumption | (simp; done) | fail) (by rfl) (by simp) ?_; (try simp [hk, hv, hv2, del]))
  | (refine CallP.pan1 (hc2 _ (by simp)) (by first | (simp [hk, hv, hv2, del, getK_cons, getK, getK_append, getK_del]; done) | fail) (by rfl) (by first | assumption | (simp; done) | fail) (by rfl) (by simp) ?_; rintro ob' ⟨q', rfl⟩; refine ⟨_, Wk.refl _, ?_⟩)
  | fail)
     refine hpan _ _ ?_
     refine LeaveD.of [(1, .box [.u (.int .i64 0)]), (2, .box [.u (.int .i64 0)]), (0, expOb0)] (by simp [getK_cons, getK, getK_append, getK_del]) (pdef_pan 1 2 0 _ (by simp) (by simp) (by simp) (by decide) (by decide) (by decide) 0 0 _ _ 0 0 0 [] .nil) ?_
     simp only [show Γ.base.n0 = 0 from hn0]
     simp [delL, del]
     refine EndW.norm ?_
     simp [St.norm, normOb, normD, normU, norm1]
     (refine EndW.here ?_; (first | (refine EndOK.fin (.inr rfl) ?_) | (refine EndOK.fin (.inl rfl) ?_)); simp [resD, oneOrTup, Tryd.results24]; refine FinOK.here (by simp) ?_; try simp)
     simp [xOut, Exp.row, zeroE]
    ·have hc2 := fun nx (h : 3 < nx) => check_ok l q 6 3 nx h
     have hv2 : y.lev ≤ 12 := by omega
     rw [if_neg hv]
     (refine RetX.of_bodyD Tryd.func24 rfl (by simp) fun Γ hn hdfr hpan hesc => ?_); simp only [entry, List.zipIdx_cons, List.zipIdx_nil, List.map_cons, List.map_nil, Nat.zero_add, Tryd.ntmps24]
     rw [hold_defer]
     repeat' (first
  | (refine H_cons ?_; simp)
  | (refine H_nil ?_; simp)
  | (refine V_sseq ?_; simp)
  | (refine V_scond ?_; simp)
  | (refine V_skip ?_; simp only [RunK])
  | (refine CallP.okL (ho _) (by first | (simp [getK_cons, getK, getK_append, getK_del, getK_setOb, applyW, del]; done) | fail) (by rfl) (by first | assumption | (simp; done) | fail) (by rfl) (by simp) ?_; (try simp [delL, del]))
  | fail)
     refine V_defer hesc hdfr rfl (by simp) ?_
     have hn0 := hn
     have hpan0 := hpan
     intro Γ' hn hpan
     simp
     repeat' (first
  | (refine H_cons ?_; simp [hk, hv, hv2, del])
  | (refine H_nil ?_; simp [hk, hv, hv2, del])
  | (refine V_sseq ?_; simp [hk, hv, hv2, del])
  | (refine V_ret ?_; simp only [RunK])
  | (refine CallP.fun_ (hlv) (by first | rfl | fail) (by first | assumption | (simp; done) | fail) (by first | (simp [hk, hv, hv2, del]; done) | (simp [hk, hv, hv2, del]; rfl) | fail) (by first | (simp; done) | fail) (fun d hd => ?_); subst hd; (try simp [hk, hv, hv2, del]))
  | (refine CallP.fun_ (hnx) (by first | rfl | fail) (by first | assumption | (simp; done) | fail) (by first | (simp [hk, hv, hv2, del]; done) | (simp [hk, hv, hv2, del]; rfl) | fail) (by first | (simp; done) | fail) (fun d hd => ?_); subst hd; (try simp [hk, hv, hv2, del]))
  | (refine CallP.ok1 (hEx) (by first | (simp [hk, hv, hv2, del, getK_cons, getK, getK_append, getK_del]; done) | fail) (by rfl) (by first | assumption | (simp; done) | fail) (by rfl) (by simp) ?_; (try simp [hk, hv, hv2, del]))
  | (refine CallP.ok1 (hc1 _ (by simp)) (by first | (simp [hk, hv, hv2, del, getK_cons, getK, getK_append, getK_del]; done) | fail) (by rfl) (by first | assumption | (simp; done) | fail) (by rfl) (by simp) ?_; (try simp [hk, hv, hv2, del]))
  | (refine CallP.ok1 (hc2 _ (by simp)) (by first | (simp [hk, hv, hv2, del, getK_cons, getK, getK_append, getK_del]; done) | fail) (by rfl) (by first | assumption | (simp; done) | fail) (by rfl) (by simp) ?_; (try simp [hk, hv, hv2, del]))
  | fail)
     refine ⟨rfl, ?_⟩
     refine LeaveD.of [(1, .box [.u (.int .i64 0)]), (2, .box [.u (.int .i64 0)]), (0, .box ([.int .i64 y.op, .int .i64 y.n, .int .i64 y.unit, .str y.s, .sl (y.args.map Exp.row)].map .u))] (by simp [getK_cons, getK, getK_append, getK_del]) (pdef_ret 1 2 0 _ (by simp) (by simp) (by simp) (by decide) (by decide) (by decide) 0 0 _) ?_
     simp only [show Γ.base.n0 = 0 from hn0]
     simp [delL, del]
     (refine EndW.here ?_; (first | (refine EndOK.fin (.inr rfl) ?_) | (refine EndOK.fin (.inl rfl) ?_)); simp [resD, oneOrTup, Tryd.results24]; refine FinOK.here (by simp) ?_; try simp)
     simp [xOut, Exp.row_eq]
   ·have hc1 := fun nx (h : 3 < nx) => check_pan l q t 12 3 nx h ht hl.len
    rw [if_pos hk]
    (refine RetX.of_bodyD Tryd.func24 rfl (by simp) fun Γ hn hdfr hpan hesc => ?_); simp only [entry, List.zipIdx_cons, List.zipIdx_nil, List.map_cons, List.map_nil, Nat.zero_add, Tryd.ntmps24]
    rw [hold_defer]
    repeat' (first
  | (refine H_cons ?_; simp)
  | (refine H_nil ?_; simp)
  | (refine V_sseq ?_; simp)
  | (refine V_scond ?_; simp)
  | (refine V_skip ?_; simp only [RunK])
  | (refine CallP.okL (ho _) (by first | (simp [getK_cons, getK, getK_append, getK_del, getK_setOb, applyW, del]; done) | fail) (by rfl) (by first | assumption | (simp; done) | fail) (by rfl) (by simp) ?_; (try simp [delL, del]))
  | fail)
    refine V_defer hesc hdfr rfl (by simp) ?_
    have hn0 := hn
    have hpan0 := hpan
    intro Γ' hn hpan
    simp
    repeat' (first
  | (refine H_cons ?_; simp [hk, del])
  | (refine H_nil ?_; simp [hk, del])
  | (refine V_sseq ?_; simp [hk, del])
  | (refine CallP.fun_ (hnx) (by first | rfl | fail) (by first | assumption | (simp; done) | fail) (by first | (simp [hk, del]; done) | (simp [hk, del]; rfl) | fail) (by first | (simp; done) | fail) (fun d hd => ?_); subst hd; (try simp [hk, del]))
  | (refine CallP.ok1 (hEx) (by first | (simp [hk, del, getK_cons, getK, getK_append, getK_del]; done) | fail) (by rfl) (by first | assumption | (simp; done) | fail) (by rfl) (by simp) ?_; (try simp [hk, del]))
  | (refine CallP.pan1 (hc1 _ (by simp)) (by first | (simp [hk, del, getK_cons, getK, getK_append, getK_del]; done) | fail) (by rfl) (by first | assumption | (simp; done) | fail) (by rfl) (by simp) ?_; rintro ob' ⟨q', rfl⟩; refine ⟨_, Wk.refl _, ?_⟩)
  | fail)
    refine hpan _ _ ?_
    refine LeaveD.of [(1, .box [.u (.int .i64 0)]), (2, .box [.u (.int .i64 0)]), (0, expOb0)] (by simp [getK_cons, getK, getK_append, getK_del]) (pdef_pan 1 2 0 _ (by simp) (by simp) (by simp) (by decide) (by decide) (by decide) 0 0 _ _ 0 0 0 [] .nil) ?_
    simp only [show Γ.base.n0 = 0 from hn0]
    simp [delL, del]
    refine EndW.norm ?_
    simp [St.norm, normOb, normD, normU, norm1]
    (refine EndW.here ?_; (first | (refine EndOK.fin (.inr rfl) ?_) | (refine EndOK.fin (.inl rfl) ?_)); simp [resD, oneOrTup, Tryd.results24]; refine FinOK.here (by simp) ?_; try simp)
    simp [xOut, Exp.row, zeroE]
theorem parseExp_fun (s : List UInt8) : Fun Tryd.prog 24 [.u (.str s)] (· = .tup [eagg (parseX s).1, .u (.int .i64 (parseX s).2.1), .u (.int .i64 (parseX s).2.2)]) := by
 unfold Fun
 exact (parseExp_ret s).ret (fun d o n h => by
  cases h
  refine ⟨by simp [xOut, pureD], ?_⟩
  rw [xOut, Exp.row_eq]
  rfl) (fun ch o n h => by cases h)
end Go.Proofs.YtfcopibncpkdoaaDoor
namespace Go.Proofs.YtfcopibncpkdoaaDoor
open Go Go.VL
mutual
def levS : Exp → Int
 | .mk _ _ _ _ args => levsS args + 1
def levsS : List Exp → Int
 | [] => 0
 | e :: l => max (levS e) (levsS l)
end
theorem foldl_max_cons (l : List Int) (a : Int) (ha : 0 ≤ a) : l.foldl max a = max a (l.foldl max 0) := by
 induction l generalizing a with
 | nil => simp; omega
 | cons b l ih => simp only [List.foldl_cons]; rw [ih (max a b) (by omega), ih (max 0 b) (by omega)]; omega
mutual
theorem levS_eq : ∀ e : Exp, levS e = e.lev
 | .mk op n u s args => by rw [levS, Exp.lev_eq, levsS_eq]; rfl
theorem levsS_eq : ∀ l : List Exp, levsS l = (l.map Exp.lev).foldl max 0
 | [] => by rw [levsS]; rfl
 | e :: l => by
  have := e.lev_pos
  rw [levsS, levS_eq, levsS_eq, List.map_cons, List.foldl_cons, foldl_max_cons (l.map Exp.lev) (max 0 e.lev) (by omega)]
  omega
end
/-- The same az parseX, to be computed with. -/
def parseY (s : List UInt8) : Exp × Int × Int := match lexL s with
 | .error (p, e) => (zeroE, p, e)
 | .ok l => match expP l (4 * l.length + 3) 0 0 with
  | .stop pos e => (zeroE, pos, e)
  | .ok y q => if kindAt l q ≠ 0 then (zeroE, posAt l q, 12) else if 12 < levS y then (zeroE, posAt l q, 6) else (y, 0, 0)
theorem parseX_eq (s : List UInt8) : parseX s = parseY s := by
 unfold parseX parseY
 simp only [levS_eq]
 try rfl
def ofP (s : List UInt8) (vars : List Var) : Int × Int := if (parseY s).2.2 ≠ 0 then (-1, (parseY s).2.2) else valueP [] vars (parseY s).1
attribute [local simp] HS hcons hstep evPure opd uOf putOK St.put St.at getK binD binI binS binB nilD aggD eqUs cmpK lookD lookR rangeD Go.VL.nextD entryD keyD valU keyU lookK mkV entD_nil lookK_entD updK_entD1 updK_entD3 allUE allUE_entD makeMapD mapUpdD mapEff updK valM Key.kk shiftI arith unD convD pickD loadD cellsAt fieldAddrD fieldD indexAddrD indexD sliceD cutD lenD minmaxD nilCheckD buildD fillD cellsD isOne ones setAll mkAgg allU allocD boxD storeD St.add buildSliceD appendD rowsOf makeD setOb getK_setOb getK_del getK_cons stripL strip guardTmp entry chunks zcells valD argsV argsW argW argU1 argU0 argsU0 argsU1 calleeOf scalarD scalarU delAll effD St.effS RK_seq RK_seq_ret RK_seq_exit RK_blk RK_blk_ret RK_blk_exit RK_loop RK_loop_ret RK_loop_exit RK_done vs_seq vs_block vs_cond vs_region vs_loop vs_draw applyW mkD rdIds lentIds callOf calleeOf freeOp D.ids Op.operands Call.operands isEffOp makeIfD typeAssertD conc concs conc1 uOfV panicD IntKind.bits allU2 allU2_append List.take_of_length_le List.range_succ
attribute [local irreducible] V G H HD HD2 HD4 HD4h RetX RunK Eff CallP CallV EndOK Fun Ret FinOK LoopI LoopW EndW
theorem of_fun (s : List UInt8) (vars : List Var) : Fun Tryd.prog 23 [.u (.str s), .u (varsU vars)] (· = .tup [.u (.int .i64 (ofP s vars).1), .u (.int .i64 (ofP s vars).2)]) := by
 have h1 := parseExp_fun s
 rw [parseX_eq] at h1
 have h2 := value_fun [] vars (parseY s).1
 unfold ofP
 generalize hr : parseY s = R at *
 obtain ⟨y, p, er⟩ := R
 simp only at *
 by_cases he : er = 0
 ·subst he
  simp only [letsU, varsU, eagg, List.map_nil, ne_eq, not_true_eq_false, if_false] at h1 h2 ⊢
  generalize valueP [] vars y = V at h2 ⊢
  (refine Fun.of_bodyW Tryd.func23 rfl (by simp) fun Γ hn => ?_); simp only [entry, List.zipIdx_cons, List.zipIdx_nil, List.map_cons, List.map_nil, Nat.zero_add, Tryd.ntmps23]
  repeat' (first
  | (refine H_cons ?_; simp)
  | (refine H_nil ?_; simp)
  | (refine V_sseq ?_; simp)
  | (refine V_scond ?_; simp)
  | (refine V_ret ?_; simp only [RunK])
  | (refine V_skip ?_; simp only [RunK])
  | (refine CallP.fun_ (h1) (by first | rfl | fail) (by first | assumption | (simp; done) | fail) (by first | (simp; done) | (simp; rfl) | fail) (by first | (simp; done) | fail) (fun d hd => ?_); subst hd; (try simp))
  | (refine CallP.fun_ (h2) (by first | rfl | fail) (by first | assumption | (simp; done) | fail) (by first | (simp; done) | (simp; rfl) | fail) (by first | (simp; done) | fail) (fun d hd => ?_); subst hd; (try simp))
  | fail)
  refine EndW.here ?_
  (refine EndOK.val (.inr rfl) ?_; simp [resD, oneOrTup, pureD, Tryd.results23])
 ·simp only [varsU, eagg, ne_eq, he, not_false_eq_true, if_true] at h1 h2 ⊢
  (refine Fun.of_bodyW Tryd.func23 rfl (by simp) fun Γ hn => ?_); simp only [entry, List.zipIdx_cons, List.zipIdx_nil, List.map_cons, List.map_nil, Nat.zero_add, Tryd.ntmps23]
  repeat' (first
  | (refine H_cons ?_; simp [he])
  | (refine H_nil ?_; simp [he])
  | (refine V_sseq ?_; simp [he])
  | (refine V_scond ?_; simp [he])
  | (refine V_ret ?_; simp only [RunK])
  | (refine CallP.fun_ (h1) (by first | rfl | fail) (by first | assumption | (simp; done) | fail) (by first | (simp [he]; done) | (simp [he]; rfl) | fail) (by first | (simp; done) | fail) (fun d hd => ?_); subst hd; (try simp [he]))
  | fail)
  refine EndW.here ?_
  (refine EndOK.val (.inr rfl) ?_; simp [resD, oneOrTup, pureD, Tryd.results23])
def vPot : Var := ⟨[112, 111, 116], 3, 999⟩
def vY (n : Int) (u : Int) : Var := ⟨[121], u, n⟩
def vBid : Var := ⟨[98, 105, 100], 0, 10⟩
def vMem (n : Int) : Var := ⟨[109, 101, 109, 98, 101, 114, 115], 0, n⟩
def tx1 : List UInt8 := [112, 111, 116, 32, 42, 32, 53, 48, 32, 112, 101, 114, 32, 109, 105, 108, 108, 101, 32, 45, 32, 98, 105, 100, 32, 47, 32, 109, 101, 109, 98, 101, 114, 115]
def tx2 : List UInt8 := [40, 32, 48, 32, 45, 32, 55, 32, 41, 32, 47, 32, 50]
def tx3 : List UInt8 := [105, 102, 32, 109, 101, 109, 98, 101, 114, 115, 32, 61, 61, 32, 48, 32, 116, 104, 101, 110, 32, 48, 32, 99, 111, 105, 110, 115, 32, 101, 108, 115, 101, 32, 112, 111, 116, 32, 47, 32, 109, 101, 109, 98, 101, 114, 115]
def tx4 : List UInt8 := [53, 32, 99, 111, 105, 110, 115]
def tx5 : List UInt8 := [120, 32, 43, 32, 121]
def tx6 : List UInt8 := [122, 32, 43, 32, 49, 32, 99, 111, 105, 110, 115]
def tx7 : List UInt8 := [121, 32, 47, 32, 48]
def tx8 : List UInt8 := [121, 32, 42, 32, 121]
theorem pf1 : ofP tx1 [vPot, vBid, vMem 3] = (46, 0) := by kernel_rfl
theorem pf2 : ofP tx2 [] = (-4, 0) := by kernel_rfl
theorem pf3 : ofP tx3 [vMem 0, vPot] = (0, 0) := by kernel_rfl
theorem pf4 : (parseY tx4).2 = (0, 0) := by kernel_rfl
theorem pf5 : (parseY tx5).2 = (0, 0) := by kernel_rfl
theorem pf6 : (parseY tx6).2 = (0, 0) := by kernel_rfl
theorem pf7 : ofP tx7 [vY 2 3] = (0, 15) := by kernel_rfl
theorem pf8 : ofP tx8 [vY 1073741824 0] = (0, 3) := by kernel_rfl
theorem pfd : valueP [⟨[120], (parseY tx4).1⟩, ⟨[122], (parseY tx5).1⟩] [vY 2 3] (parseY tx6).1 = (8, 0) := by kernel_rfl
theorem of_at {s : List UInt8} {vars : List Var} {r : Int × Int} (h : ofP s vars = r) : Fun Tryd.prog 23 [.u (.str s), .u (.sl (vars.map fun v => [.str v.name, .int .i64 v.unit, .int .i64 v.n]))] (· = .tup [.u (.int .i64 r.1), .u (.int .i64 r.2)]) := by
 subst h
 exact of_fun s vars
theorem parse_at {s : List UInt8} (h : (parseY s).2 = (0, 0)) : Fun Tryd.prog 24 [.u (.str s)] (· = .tup [eagg (parseY s).1, .u (.int .i64 0), .u (.int .i64 0)]) := by
 have h1 := parseExp_fun s
 rw [parseX_eq, h] at h1
 exact h1
theorem small_fun : Fun Tryd.prog 9 [] (· = .u (.bool true)) := by
 have h1 := of_at pf1
 have h2 := of_at pf2
 have h3 := of_at pf3
 have h4 := parse_at pf4
 have h5 := parse_at pf5
 have h6 := parse_at pf6
 have h7 := of_at pf7
 have h8 := of_at pf8
 have h9 := value_fun [⟨[120], (parseY tx4).1⟩, ⟨[122], (parseY tx5).1⟩] [vY 2 3] (parseY tx6).1
 rw [pfd] at h9
 generalize (parseY tx4).1 = e4 at *
 generalize (parseY tx5).1 = e5 at *
 generalize (parseY tx6).1 = e6 at *
 simp only [List.map_cons, List.map_nil, letsU, varsU, eagg, vPot, vBid, vMem, vY, tx1, tx2, tx3, tx4, tx5, tx6, tx7, tx8] at h1 h2 h3 h4 h5 h6 h7 h8 h9
 (refine Fun.of_bodyW Tryd.func9 rfl (by simp) fun Γ hn => ?_); simp only [entry, List.zipIdx_cons, List.zipIdx_nil, List.map_cons, List.map_nil, Nat.zero_add, Tryd.ntmps9]
 repeat' (first
  | (refine H_cons ?_; simp)
  | (refine H_nil ?_; simp)
  | (refine V_sseq ?_; simp)
  | (refine V_ret ?_; simp only [RunK])
  | (refine CallP.fun_ (h1) (by first | rfl | fail) (by first | assumption | (simp; done) | fail) (by first | (simp; done) | (simp; rfl) | fail) (by first | (simp; done) | fail) (fun d hd => ?_); subst hd; (try simp))
  | (refine CallP.fun_ (h2) (by first | rfl | fail) (by first | assumption | (simp; done) | fail) (by first | (simp; done) | (simp; rfl) | fail) (by first | (simp; done) | fail) (fun d hd => ?_); subst hd; (try simp))
  | (refine CallP.fun_ (h3) (by first | rfl | fail) (by first | assumption | (simp; done) | fail) (by first | (simp; done) | (simp; rfl) | fail) (by first | (simp; done) | fail) (fun d hd => ?_); subst hd; (try simp))
  | (refine CallP.fun_ (h4) (by first | rfl | fail) (by first | assumption | (simp; done) | fail) (by first | (simp; done) | (simp; rfl) | fail) (by first | (simp; done) | fail) (fun d hd => ?_); subst hd; (try simp))
  | (refine CallP.fun_ (h5) (by first | rfl | fail) (by first | assumption | (simp; done) | fail) (by first | (simp; done) | (simp; rfl) | fail) (by first | (simp; done) | fail) (fun d hd => ?_); subst hd; (try simp))
  | (refine CallP.fun_ (h6) (by first | rfl | fail) (by first | assumption | (simp; done) | fail) (by first | (simp; done) | (simp; rfl) | fail) (by first | (simp; done) | fail) (fun d hd => ?_); subst hd; (try simp))
  | (refine CallP.fun_ (h7) (by first | rfl | fail) (by first | assumption | (simp; done) | fail) (by first | (simp; done) | (simp; rfl) | fail) (by first | (simp; done) | fail) (fun d hd => ?_); subst hd; (try simp))
  | (refine CallP.fun_ (h8) (by first | rfl | fail) (by first | assumption | (simp; done) | fail) (by first | (simp; done) | (simp; rfl) | fail) (by first | (simp; done) | fail) (fun d hd => ?_); subst hd; (try simp))
  | (refine CallP.fun_ (h9) (by first | rfl | fail) (by first | assumption | (simp; done) | fail) (by first | (simp; done) | (simp; rfl) | fail) (by first | (simp; done) | fail) (fun d hd => ?_); subst hd; (try simp))
  | fail)
 refine EndW.here ?_
 (refine EndOK.val (.inr rfl) ?_; simp [resD, oneOrTup, pureD, Tryd.results9])
end Go.Proofs.YtfcopibncpkdoaaDoor
namespace Go.Proofs.YtfcopibncpkdoaaDoor
open Go Go.VL
attribute [local simp] hcons hstep evPure opd uOf putOK St.put St.at getK binD binI binS binB nilD aggD eqUs cmpK lookD lookR rangeD Go.VL.nextD entryD keyD valU keyU lookK mkV entD_nil lookK_entD updK_entD1 updK_entD3 allUE allUE_entD makeMapD mapUpdD mapEff updK valM Key.kk shiftI arith unD convD pickD loadD cellsAt fieldAddrD fieldD indexAddrD indexD sliceD cutD lenD minmaxD nilCheckD buildD fillD cellsD isOne ones setAll mkAgg allU allocD boxD storeD St.add buildSliceD appendD rowsOf makeD setOb getK_setOb getK_del getK_cons stripL strip guardTmp entry chunks zcells valD argsV argsW argW argU1 argU0 argsU0 argsU1 calleeOf scalarD scalarU delAll effD St.effS RK_seq RK_seq_ret RK_seq_exit RK_blk RK_blk_ret RK_blk_exit RK_loop RK_loop_ret RK_loop_exit RK_done vs_seq vs_block vs_cond vs_region vs_loop vs_draw applyW mkD rdIds lentIds callOf calleeOf freeOp D.ids Op.operands Call.operands isEffOp makeIfD typeAssertD conc concs conc1 uOfV panicD IntKind.bits allU2 allU2_append List.take_of_length_le List.range_succ
attribute [local irreducible] V G H HD HD2 RunK Eff CallP CallV EndOK Fun Ret FinOK LoopI LoopW EndW
def nodesS : Nat → Exp → Int → Int
 | 0, _, most => most + 1
 | L + 1, e, most => if 40 < e.s.length then most + 1 else e.args.foldl (fun n x => if n ≤ most then n + nodesS L x (most - n) else n) 1
theorem nodesS_succ (L : Nat) (e : Exp) (most : Int) : nodesS (L + 1) e most = if 40 < e.s.length then most + 1 else e.args.foldl (fun n x => if n ≤ most then n + nodesS L x (most - n) else n) 1 := by rw [nodesS]
theorem nodes_bound : ∀ (L : Nat) (e : Exp) (most : Int), 0 ≤ most → 1 ≤ nodesS L e most ∧ nodesS L e most ≤ most + 1
 | 0, e, most, h => by rw [nodesS]; omega
 | L + 1, e, most, h => by
  rw [nodesS]
  split
  ·omega
  ·have : ∀ (l : List Exp) (n : Int), 1 ≤ n → n ≤ most + 1 → 1 ≤ l.foldl (fun n x => if n ≤ most then n + nodesS L x (most - n) else n) n ∧ l.foldl (fun n x => if n ≤ most then n + nodesS L x (most - n) else n) n ≤ most + 1 := by
    intro l
    induction l with
    | nil => intro n h1 h2; exact ⟨h1, h2⟩
    | cons a l ih =>
     intro n h1 h2
     rw [List.foldl_cons]
     split
     ·rename_i hn
      have := nodes_bound L a (most - n) (by omega)
      exact ih _ (by omega) (by omega)
     ·exact ih n h1 h2
   exact this _ 1 (by omega) (by omega)
theorem foldl_done {L : Nat} {most : Int} : ∀ (l : List Exp) (n : Int), ¬ n ≤ most → l.foldl (fun n x => if n ≤ most then n + nodesS L x (most - n) else n) n = n
 | [], _, _ => rfl
 | a :: l, n, h => by rw [List.foldl_cons, if_neg h]; exact foldl_done l n h
theorem nodes_fun : ∀ (L : Nat) (e : Exp) (most : Int), 0 ≤ most → most ≤ 1000 → (L : Int) ≤ 100 → Fun Tryd.prog 26 [eagg e, .u (.int .i64 most), .u (.int .i64 L)] (· = .u (.int .i64 (nodesS L e most)))
 | 0, e, most, _, _, _ => by
  rw [nodesS]
  (refine Fun.of_body Tryd.func26 rfl (by simp) fun Γ hn => ?_); simp only [entry, List.zipIdx_cons, List.zipIdx_nil, List.map_cons, List.map_nil, Nat.zero_add, Tryd.ntmps26]
  simp only [eagg]
  repeat' (first
  | (refine H_cons ?_; simp)
  | (refine H_nil ?_; simp)
  | (refine ⟨by omega, ?_⟩)
  | (refine V_sseq ?_; simp)
  | (refine V_scond ?_; simp)
  | (refine V_ret ?_; simp only [RunK])
  | fail)
  (refine EndOK.val (.inr rfl) ?_; simp [resD, oneOrTup, pureD, Tryd.results26])
 | L + 1, e, most, h0, h1, hL => by
  rw [nodesS_succ]
  by_cases hs : 40 < e.s.length
  ·rw [if_pos hs]
   (refine Fun.of_body Tryd.func26 rfl (by simp) fun Γ hn => ?_); simp only [entry, List.zipIdx_cons, List.zipIdx_nil, List.map_cons, List.map_nil, Nat.zero_add, Tryd.ntmps26]
   simp only [eagg]
   repeat' (first
  | (refine H_cons ?_; simp)
  | (refine H_nil ?_; simp)
  | (refine ⟨by omega, ?_⟩)
  | (refine V_sseq ?_; simp)
  | (refine V_scond ?_; simp)
  | (refine V_ret ?_; simp only [RunK])
  | (refine ⟨?_, by omega⟩)
  | (intro hc <;> (try (exfalso; omega)))
  | fail)
   all_goals first
    | (exfalso; omega)
    | ((refine EndOK.val (.inr rfl) ?_; simp [resD, oneOrTup, pureD, Tryd.results26]); done)
  rw [if_neg hs]
  generalize hg : (e.args.foldl (fun n x => if n ≤ most then n + nodesS L x (most - n) else n) 1) = g
  (refine Fun.of_body Tryd.func26 rfl (by simp) fun Γ hn => ?_); simp only [entry, List.zipIdx_cons, List.zipIdx_nil, List.map_cons, List.map_nil, Nat.zero_add, Tryd.ntmps26]
  simp only [eagg]
  refine V_lenB (x := 0) (j := 4) rfl rfl fun hl => ?_
  simp only [List.length_map] at hl
  repeat' (first
  | (refine H_cons ?_; simp)
  | (refine H_nil ?_; simp)
  | (refine ⟨by omega, ?_⟩)
  | (refine V_sseq ?_; simp)
  | (refine V_scond ?_; simp)
  | (refine V_sblock ?_; simp)
  | (refine V_skip ?_; simp only [RunK])
  | (refine ⟨?_, by omega⟩)
  | (intro hc <;> (try (exfalso; omega)))
  | fail)
  refine V_loopF (α := { p : Nat × Int // p.1 ≤ e.args.length ∧ 1 ≤ p.2 ∧ p.2 ≤ most + 1 ∧ g = (e.args.drop p.1).foldl (fun n x => if n ≤ most then n + nodesS L x (most - n) else n) p.2 }) [1, 2, 3] (fun p => [(7, .u (.int .i64 p.1.2)), (8, .u (.int .i64 p.1.1))]) (fun p => e.args.length - p.1.1) ⟨(0, 1), by simp, by simp, by simp; omega, by simp [hg]⟩ ?_ ?_
  ·exact (Wk.cut rfl (by simp [hn, St.lp]) (by simp [wkO, St.lp, getK_cons, getK, Ob.under, D.under, under_rowsD, under_entD]) (by simp [wkU, St.lp, keepE, getK_cons, getK, D.under]) (by simp [wkE, St.lp, keepE, getK_cons, getK] <;> (try (intros; simp_all; done)) <;> (try (intros; omega)) <;> (try grind)))
  rintro ⟨⟨i, n⟩, hi, hn1, hn2, hgn⟩
  simp only at hi hn1 hn2 hgn
  simp [St.lp, St.only, keepE, getK_cons, getK]
  rcases hx : e.args[i]? with _ | x
  ·have hge : e.args.length ≤ i := by simpa using hx
   rw [List.drop_of_length_le hge] at hgn
   repeat' (first
  | (refine H_cons ?_; simp [hx])
  | (refine H_nil ?_; simp [hx])
  | (refine ⟨by omega, ?_⟩)
  | (refine V_sseq ?_; simp [hx])
  | (refine V_scond ?_; simp [hx])
  | (refine V_ret ?_; simp only [RunK])
  | (refine V_exit ?_; simp [RunK])
  | (intro hc <;> (try (exfalso; omega)))
  | fail)
   (refine EndOK.val (.inr rfl) ?_; simp [resD, oneOrTup, pureD, Tryd.results26])
   rw [hgn]; rfl
  ·have hlt : i < e.args.length := (List.getElem?_eq_some_iff.1 hx).1
   by_cases hm : n ≤ most
   ·have h5 := nodes_fun L x (most - n) (by omega) (by omega) (by omega)
    have hb := nodes_bound L x (most - n) (by omega)
    simp only [eagg] at h5
    rw [List.drop_eq_getElem_cons hlt, List.foldl_cons, if_pos hm, (List.getElem?_eq_some_iff.1 hx).2] at hgn
    generalize nodesS L x (most - n) = y at h5 hb hgn
    repeat' (first
  | (refine H_cons ?_; simp [hx, x.row_eq])
  | (refine H_nil ?_; simp [hx, x.row_eq])
  | (refine ⟨by omega, ?_⟩)
  | (refine V_sseq ?_; simp [hx, x.row_eq])
  | (refine V_scond ?_; simp [hx, x.row_eq])
  | (refine V_sregion ?_; simp [hx, x.row_eq])
  | (refine V_skip ?_; simp only [RunK])
  | (refine ⟨?_, by omega⟩)
  | (intro hc <;> (try (exfalso; omega)))
  | (refine CallP.fun_ (h5) (by first | rfl | fail) (by first | assumption | (simp; done) | fail) (by first | (simp [hx, x.row_eq]; done) | (simp [hx, x.row_eq]; rfl) | fail) (by first | (simp; done) | fail) (fun d hd => ?_); subst hd; (try simp [hx, x.row_eq]))
  | fail)
    refine LoopW.next ⟨(i + 1, n + y), (by omega : i + 1 ≤ e.args.length), (by omega : 1 ≤ n + y), (by omega : n + y ≤ most + 1), hgn⟩ (by simp; omega) ?_
    exact (Wk.cut rfl (by simp [hn, St.lp]) (by simp [wkO, St.lp, getK_cons, getK, Ob.under, D.under, under_rowsD, under_entD]) (by simp [wkU, St.lp, keepE, getK_cons, getK, D.under]) (by simp [wkE, St.lp, keepE, getK_cons, getK] <;> (try (intros; simp_all; done)) <;> (try (intros; omega)) <;> (try grind)))
   ·rw [foldl_done _ _ hm] at hgn
    repeat' (first
  | (refine H_cons ?_; simp [hx])
  | (refine H_nil ?_; simp [hx])
  | (refine ⟨by omega, ?_⟩)
  | (refine V_sseq ?_; simp [hx])
  | (refine V_scond ?_; simp [hx])
  | (refine V_ret ?_; simp only [RunK])
  | (refine V_exit ?_; simp [RunK])
  | (refine ⟨?_, by omega⟩)
  | (intro hc <;> (try (exfalso; omega)))
  | fail)
    (refine EndOK.val (.inr rfl) ?_; simp [resD, oneOrTup, pureD, Tryd.results26])
    rw [hgn]
def fewE (e : Exp) : Bool := decide (nodesS 14 e 80 ≤ 80)
theorem fewExp_fun (e : Exp) : Fun Tryd.prog 11 [eagg e] (· = .u (.bool (fewE e))) := by
 have h2 := nodes_fun 14 e 80 (by omega) (by omega) (by omega)
 unfold fewE
 simp only [eagg] at h2 ⊢
 generalize nodesS 14 e 80 = y at h2 ⊢
 (refine Fun.of_body Tryd.func11 rfl (by simp) fun Γ hn => ?_); simp only [entry, List.zipIdx_cons, List.zipIdx_nil, List.map_cons, List.map_nil, Nat.zero_add, Tryd.ntmps11]
 repeat' (first
  | (refine H_cons ?_; simp)
  | (refine H_nil ?_; simp)
  | (refine V_sseq ?_; simp)
  | (refine V_ret ?_; simp only [RunK])
  | (refine CallP.fun_ (h2) (by first | rfl | fail) (by first | assumption | (simp; done) | fail) (by first | (simp; done) | (simp; rfl) | fail) (by first | (simp; done) | fail) (fun d hd => ?_); subst hd; (try simp))
  | fail)
 (refine EndOK.val (.inr rfl) ?_; simp [resD, oneOrTup, pureD, Tryd.results11])
mutual
def namesN : Exp → Int
 | .mk op _ _ _ args => (if op = 1 then 1 else 0) + namesNL args
def namesNL : List Exp → Int
 | [] => 0
 | e :: r => namesN e + namesNL r
end
theorem namesN_eq (e : Exp) : namesN e = (if e.op = 1 then 1 else 0) + namesNL e.args := by cases e with | mk op n u s args => rw [namesN]; rfl
mutual
theorem namesN_nonneg : ∀ e : Exp, 0 ≤ namesN e
 | .mk op n u s args => by
  rw [namesN]
  have := namesNL_nonneg args
  split <;> omega
theorem namesNL_nonneg : ∀ l : List Exp, 0 ≤ namesNL l
 | [] => by rw [namesNL]; omega
 | e :: r => by
  rw [namesNL]
  have := namesN_nonneg e
  have := namesNL_nonneg r
  omega
end
theorem namesNL_at {l : List Exp} {i : Nat} {x : Exp} (h : l[i]? = some x) : namesNL (l.take (i + 1)) = namesNL (l.take i) + namesN x := by
 induction l generalizing i with
 | nil => simp at h
 | cons a l ih =>
  cases i with
  | zero => simp at h; subst h; simp [namesNL]
  | succ i => rw [List.take_succ_cons, List.take_succ_cons, namesNL, namesNL, ih (i := i) (by simpa using h)]; omega
theorem namesNL_le {l : List Exp} (i : Nat) : namesNL (l.take i) ≤ namesNL l := by
 induction l generalizing i with
 | nil => simp
 | cons a l ih =>
  cases i with
  | zero => rw [List.take_zero]; have := namesNL_nonneg (a :: l); rw [show namesNL [] = 0 by rw [namesNL]]; exact this
  | succ i => rw [List.take_succ_cons, namesNL, namesNL]; have := ih i; omega
/-- Few nodes: few names. -/
theorem few_names : ∀ (L : Nat) (e : Exp) (most : Int), 0 ≤ most → nodesS L e most ≤ most → namesN e ≤ nodesS L e most
 | 0, e, most, _, h => by rw [nodesS] at h; omega
 | L + 1, e, most, h0, h => by
  rw [nodesS_succ] at h ⊢
  by_cases hs : 40 < e.s.length
  ·rw [if_pos hs] at h; omega
  rw [if_neg hs] at h ⊢
  have key : ∀ (l : List Exp) (n : Int), 1 ≤ n → l.foldl (fun n x => if n ≤ most then n + nodesS L x (most - n) else n) n ≤ most → n + namesNL l ≤ l.foldl (fun n x => if n ≤ most then n + nodesS L x (most - n) else n) n := by
   intro l
   induction l with
   | nil => intro n _ _; rw [namesNL]; simp
   | cons a l ih =>
    intro n h1 h2
    rw [List.foldl_cons] at h2 ⊢
    by_cases hn : n ≤ most
    ·rw [if_pos hn] at h2 ⊢
     have hb := nodes_bound L a (most - n) (by omega)
     have h3 := ih _ (by omega) h2
     have h4 : n + nodesS L a (most - n) ≤ most := by
      rcases Int.lt_or_le most (n + nodesS L a (most - n)) with h5 | h5
      ·rw [foldl_done _ _ (by omega)] at h2; omega
      ·exact h5
     have h5 := few_names L a (most - n) (by omega) (by omega)
     rw [namesNL]
     omega
    ·rw [if_neg hn, foldl_done _ _ hn] at h2; omega
  have h1 := key e.args 1 (by omega) h
  rw [namesN_eq]
  by_cases h3 : e.op = 1
  ·rw [if_pos h3]; omega
  ·rw [if_neg h3]; omega
theorem rnames_fun : ∀ (m : Nat) (e : Exp), SizeOf.sizeOf e ≤ m → namesN e ≤ 1000000 → Fun Tryd.prog 25 [eagg e] (· = .u (.int .i64 (namesN e)))
 | 0, e, hm, _ => by cases e; simp at hm
 | m + 1, e, hm, hN => by
  have hch : ∀ x ∈ e.args, SizeOf.sizeOf x ≤ m := fun x hx => by
   cases e with
   | mk op n u s args =>
    have h1 := List.sizeOf_lt_of_mem (show x ∈ args from hx)
    simp at hm
    omega
  rw [namesN_eq] at hN ⊢
  have hnn := namesNL_nonneg e.args
  generalize hk : (if e.op = 1 then (1 : Int) else 0) = k0 at hN ⊢
  have hk01 : 0 ≤ k0 ∧ k0 ≤ 1 := by rw [← hk]; split <;> omega
  (refine Fun.of_body Tryd.func25 rfl (by simp) fun Γ hn => ?_); simp only [entry, List.zipIdx_cons, List.zipIdx_nil, List.map_cons, List.map_nil, Nat.zero_add, Tryd.ntmps25]
  simp only [eagg]
  refine V_lenB (x := 0) (j := 4) rfl rfl fun hl => ?_
  simp only [List.length_map] at hl
  repeat' (first
  | (refine H_cons ?_; simp)
  | (refine H_nil ?_; simp)
  | (refine V_sseq ?_; simp)
  | (refine V_scond ?_; simp)
  | (refine V_sblock ?_; simp)
  | (refine V_sregion ?_; simp)
  | (refine V_skip ?_; simp only [RunK])
  | (refine ⟨fun hc => ?_, fun hc => ?_⟩ <;> (try (exfalso; omega)))
  | fail)
  all_goals
   refine V_loopF (α := { i : Nat // i ≤ e.args.length }) [1] (fun i => [(3, .u (.int .i64 (k0 + namesNL (e.args.take i.1)))), (4, .u (.int .i64 i.1))]) (fun i => e.args.length - i.1) ⟨0, by omega⟩ ?_ ?_
   ·exact (Wk.cut rfl (by simp [hn, St.lp]) (by simp [wkO, St.lp, getK_cons, getK, Ob.under, D.under, under_rowsD, under_entD, namesNL]) (by simp [wkU, St.lp, keepE, getK_cons, getK, D.under, namesNL]) (by simp [wkE, St.lp, keepE, getK_cons, getK, namesNL] <;> (try (intros; simp_all; done)) <;> (try (intros; omega)) <;> (try grind)))
   rintro ⟨i, hi⟩
   simp [St.lp, St.only, keepE, getK_cons, getK]
   rcases hx : e.args[i]? with _ | x
   ·have hge : e.args.length ≤ i := by simpa using hx
    obtain rfl : i = e.args.length := by omega
    repeat' (first
  | (refine H_cons ?_; simp [hx])
  | (refine H_nil ?_; simp [hx])
  | (refine V_sseq ?_; simp [hx])
  | (refine V_scond ?_; simp [hx])
  | (refine V_ret ?_; simp only [RunK])
  | (refine V_exit ?_; simp [RunK])
  | fail)
    (refine EndOK.val (.inr rfl) ?_; simp [resD, oneOrTup, pureD, Tryd.results25])
   ·have hlt : i < e.args.length := (List.getElem?_eq_some_iff.1 hx).1
    have hat := namesNL_at hx
    have hle := namesNL_le (l := e.args) (i + 1)
    have hn0 := namesNL_nonneg (e.args.take i)
    have hnx := namesN_nonneg x
    have h5 := rnames_fun m x (hch x (List.mem_of_getElem? hx)) (by omega)
    simp only [eagg] at h5
    repeat' (first
  | (refine H_cons ?_; simp [hx, x.row_eq])
  | (refine H_nil ?_; simp [hx, x.row_eq])
  | (refine ⟨by omega, ?_⟩)
  | (refine V_sseq ?_; simp [hx, x.row_eq])
  | (refine V_scond ?_; simp [hx, x.row_eq])
  | (refine V_sregion ?_; simp [hx, x.row_eq])
  | (refine V_skip ?_; simp only [RunK])
  | (refine ⟨?_, by omega⟩)
  | (intro hc <;> (try (exfalso; omega)))
  | (refine CallP.fun_ (h5) (by first | rfl | fail) (by first | assumption | (simp; done) | fail) (by first | (simp [hx, x.row_eq]; done) | (simp [hx, x.row_eq]; rfl) | fail) (by first | (simp; done) | fail) (fun d hd => ?_); subst hd; (try simp [hx, x.row_eq]))
  | fail)
    all_goals
     refine LoopW.next ⟨i + 1, by omega⟩ (by simp; omega) ?_
     exact (Wk.cut rfl (by simp [hn, St.lp]) (by simp [wkO, St.lp, getK_cons, getK, Ob.under, D.under, under_rowsD, under_entD, hat, Int.add_assoc]) (by simp [wkU, St.lp, keepE, getK_cons, getK, D.under, hat, Int.add_assoc]) (by simp [wkE, St.lp, keepE, getK_cons, getK, hat, Int.add_assoc] <;> (try (intros; simp_all; done)) <;> (try (intros; omega)) <;> (try grind)))
def fewLG : List Let → Int → Int → Bool
 | [], _, _ => true
 | l :: r, i, p => if i ≤ 22 then (if 40 < l.name.length ∨ fewE l.body = false then false else if 2000 < p * (1 + namesN l.body) then false else fewLG r (i + 1) (p * (1 + namesN l.body))) else true
def fewV (vs : List Var) : Bool := (vs.take 21).all fun v => decide (v.name.length ≤ 40)
def few17 (l : List Let) (vs : List Var) : Bool := fewLG l 0 1 && fewV vs && decide ((l.length : Int) ≤ 22) && decide ((vs.length : Int) ≤ 20)
theorem few_fun (l : List Let) (vs : List Var) : Fun Tryd.prog 10 [.u (letsU l), .u (varsU vs)] (· = .u (.bool (few17 l vs))) := by
 unfold few17
 generalize hB : fewLG l 0 1 = B
 generalize hV : fewV vs = C
 unfold fewV at hV
 (refine Fun.of_body Tryd.func10 rfl (by simp) fun Γ hn => ?_); simp only [entry, List.zipIdx_cons, List.zipIdx_nil, List.map_cons, List.map_nil, Nat.zero_add, Tryd.ntmps10]
 simp only [letsU, varsU]
 refine V_len (x := 0) rfl fun hl => ?_
 refine V_len (x := 1) rfl fun hlv => ?_
 simp only [List.length_map] at hl hlv
 repeat' (first
  | (refine H_cons ?_; simp)
  | (refine H_nil ?_; simp)
  | (refine V_sseq ?_; simp)
  | (refine V_sblock ?_; simp)
  | fail)
 refine V_loopF (α := { q : Nat × Int // q.1 ≤ l.length ∧ (q.1 : Int) ≤ 23 ∧ 1 ≤ q.2 ∧ q.2 ≤ 2000 ∧ B = fewLG (l.drop q.1) q.1 q.2 }) [0, 1] (fun q => [(5, .u (.int .i64 q.1.2)), (6, .u (.int .i64 q.1.1))]) (fun q => l.length - q.1.1) ⟨(0, 1), by omega, by omega, by omega, by omega, by simpa using hB.symm⟩ ?_ ?_
 ·exact (Wk.env rfl rfl rfl (by simp [wkE, St.lp, keepE, getK_cons, getK] <;> (try (intros; simp_all; done)) <;> (try (intros; omega)) <;> (try grind)))
 rintro ⟨⟨i, p⟩, hi, him, hp1, hp2, hb⟩
 simp only at hi him hp1 hp2 hb
 simp [St.lp, St.only, keepE, getK_cons, getK]
 rcases hx : l[i]? with _ | x
 ·have hge : l.length ≤ i := by simpa using hx
  obtain rfl : i = l.length := by omega
  rw [List.drop_length, fewLG] at hb
  subst hb
  repeat' (first
  | (refine H_cons ?_; simp [hx])
  | (refine H_nil ?_; simp [hx])
  | (refine V_sseq ?_; simp [hx])
  | (refine V_scond ?_; simp [hx])
  | (refine V_sblock ?_; simp [hx])
  | (refine V_exit ?_; simp [RunK])
  | fail)
  refine V_loopF (α := { i : Nat // i ≤ vs.length ∧ (i : Int) ≤ 21 ∧ ∀ v ∈ vs.take i, decide (v.name.length ≤ 40) = true }) [0, 1] (fun i => [(7, .u (.int .i64 i.1))]) (fun i => vs.length - i.1) ⟨0, by omega, by omega, by simp⟩ ?_ ?_
  ·exact (Wk.env rfl rfl rfl (by simp [wkE, St.lp, keepE, getK_cons, getK] <;> (try (intros; simp_all; done)) <;> (try (intros; omega)) <;> (try grind)))
  rintro ⟨k, hk0, hkn, hkb⟩
  simp [St.lp, St.only, keepE, getK_cons, getK]
  have fin : (k = vs.length ∨ (k : Int) = 21) → C = true := fun h => by
   rw [← hV, List.all_eq_true]
   intro v hv
   refine hkb v ?_
   rcases h with h | h
   ·rw [h, List.take_length]; exact List.mem_of_mem_take hv
   ·rw [show k = 21 by omega]; exact hv
  rcases hy : vs[k]? with _ | v
  ·have hge2 : vs.length ≤ k := by simpa using hy
   obtain rfl : k = vs.length := by omega
   have := fin (.inl rfl)
   subst this
   repeat' (first
  | (refine H_cons ?_; simp [hy])
  | (refine H_nil ?_; simp [hy])
  | (refine V_sseq ?_; simp [hy])
  | (refine V_scond ?_; simp [hy])
  | (refine V_ret ?_; simp only [RunK])
  | (refine V_exit ?_; simp [RunK])
  | (refine ⟨fun hc => ?_, fun hc => ?_⟩ <;> (try (exfalso; omega)))
  | fail)
   all_goals
    (refine EndOK.val (.inr rfl) ?_; simp [resD, oneOrTup, pureD, Tryd.results10])
   all_goals (clear hB hV fin; simp_all <;> (try (intros; omega)))
  ·have hlt2 : k < vs.length := (List.getElem?_eq_some_iff.1 hy).1
   by_cases hm2 : (k : Int) ≤ 20
   ·by_cases hnv : 40 < v.name.length
    ·have hnv1 : 40 < (v.name.length : Int) := by omega
     repeat' (first
  | (refine H_cons ?_; simp [hy, hm2, hnv, hnv1])
  | (refine H_nil ?_; simp [hy, hm2, hnv, hnv1])
  | (refine V_sseq ?_; simp [hy, hm2, hnv, hnv1])
  | (refine V_scond ?_; simp [hy, hm2, hnv, hnv1])
  | (refine V_ret ?_; simp only [RunK])
  | (refine V_skip ?_; simp only [RunK])
  | (refine ⟨?_, by omega⟩)
  | (intro hc <;> (try (exfalso; omega)))
  | fail)
     (refine EndOK.val (.inr rfl) ?_; simp [resD, oneOrTup, pureD, Tryd.results10])
     have : C = false := by
      rw [← hV, List.all_eq_false]
      exact ⟨v, List.mem_of_getElem? (i := k) (by rw [List.getElem?_take, if_pos (by omega)]; exact hy), by simp; omega⟩
     simp [this]
    ·have hnv1 : ¬ 40 < (v.name.length : Int) := by omega
     repeat' (first
  | (refine H_cons ?_; simp [hy, hm2, hnv, hnv1])
  | (refine H_nil ?_; simp [hy, hm2, hnv, hnv1])
  | (refine ⟨by omega, ?_⟩)
  | (refine V_sseq ?_; simp [hy, hm2, hnv, hnv1])
  | (refine V_scond ?_; simp [hy, hm2, hnv, hnv1])
  | (refine V_sregion ?_; simp [hy, hm2, hnv, hnv1])
  | (refine V_skip ?_; simp only [RunK])
  | (refine ⟨?_, by omega⟩)
  | (intro hc <;> (try (exfalso; omega)))
  | fail)
     refine LoopW.next ⟨k + 1, by omega, by omega, take_succ_all hy hkb (by simp; omega)⟩ (by simp; omega) ?_
     exact (Wk.env rfl rfl rfl (by simp [wkE, St.lp, keepE, getK_cons, getK] <;> (try (intros; simp_all; done)) <;> (try (intros; omega)) <;> (try grind)))
   ·have := fin (.inr (by omega))
    subst this
    repeat' (first
  | (refine H_cons ?_; simp [hy, hm2])
  | (refine H_nil ?_; simp [hy, hm2])
  | (refine V_sseq ?_; simp [hy, hm2])
  | (refine V_scond ?_; simp [hy, hm2])
  | (refine V_ret ?_; simp only [RunK])
  | (refine V_exit ?_; simp [RunK])
  | (refine ⟨?_, by omega⟩)
  | (refine ⟨fun hc => ?_, fun hc => ?_⟩ <;> (try (exfalso; omega)))
  | (intro hc <;> (try (exfalso; omega)))
  | fail)
    all_goals
     (refine EndOK.val (.inr rfl) ?_; simp [resD, oneOrTup, pureD, Tryd.results10])
    all_goals (clear hB hV fin; simp_all <;> (try (intros; omega)))
 ·have hlt : i < l.length := (List.getElem?_eq_some_iff.1 hx).1
  rw [List.drop_eq_getElem_cons hlt, (List.getElem?_eq_some_iff.1 hx).2, fewLG] at hb
  by_cases hm : (i : Int) ≤ 22
  ·rw [if_pos hm] at hb
   have h5 := fewExp_fun x.body
   simp only [eagg] at h5
   by_cases hn60 : 40 < x.name.length
   ·have hn61 : 40 < (x.name.length : Int) := by omega
    rw [if_pos (.inl hn60)] at hb
    repeat' (first
  | (refine H_cons ?_; simp [hx, hm, hn60, hn61])
  | (refine H_nil ?_; simp [hx, hm, hn60, hn61])
  | (refine V_sseq ?_; simp [hx, hm, hn60, hn61])
  | (refine V_scond ?_; simp [hx, hm, hn60, hn61])
  | (refine V_ret ?_; simp only [RunK])
  | (refine V_skip ?_; simp only [RunK])
  | (refine ⟨?_, by omega⟩)
  | (intro hc <;> (try (exfalso; omega)))
  | fail)
    (refine EndOK.val (.inr rfl) ?_; simp [resD, oneOrTup, pureD, Tryd.results10])
    simp [hb]
   ·have hn61 : ¬ 40 < (x.name.length : Int) := by omega
    cases hf : fewE x.body with
    | false =>
     rw [if_pos (.inr hf)] at hb
     rw [hf] at h5
     repeat' (first
  | (refine H_cons ?_; simp [hx, hm, hn60, hn61])
  | (refine H_nil ?_; simp [hx, hm, hn60, hn61])
  | (refine V_sseq ?_; simp [hx, hm, hn60, hn61])
  | (refine V_scond ?_; simp [hx, hm, hn60, hn61])
  | (refine V_ret ?_; simp only [RunK])
  | (refine V_skip ?_; simp only [RunK])
  | (refine ⟨?_, by omega⟩)
  | (intro hc <;> (try (exfalso; omega)))
  | (refine CallP.fun_ (h5) (by first | rfl | fail) (by first | assumption | (simp; done) | fail) (by first | (simp [hx, hm, hn60, hn61]; done) | (simp [hx, hm, hn60, hn61]; rfl) | fail) (by first | (simp; done) | fail) (fun d hd => ?_); subst hd; (try simp [hx, hm, hn60, hn61]))
  | fail)
     (refine EndOK.val (.inr rfl) ?_; simp [resD, oneOrTup, pureD, Tryd.results10])
     simp [hb]
    | true =>
     rw [if_neg (by simp [hn60, hf])] at hb
     rw [hf] at h5
     have hfn : namesN x.body ≤ 80 := by
      unfold fewE at hf
      simp only [decide_eq_true_eq] at hf
      have := few_names 14 x.body 80 (by omega) hf
      omega
     have hnn := namesN_nonneg x.body
     have h6 := rnames_fun _ x.body (Nat.le_refl _) (by omega)
     simp only [eagg] at h6
     generalize namesN x.body = y at h6 hb hfn hnn
     have hpy : p * (1 + y) ≤ 2000 * 1001 := Int.mul_le_mul hp2 (by omega) (by omega) (by omega)
     have hpy1 : 1 ≤ p * (1 + y) := by
      have := Int.mul_le_mul hp1 (show (1 : Int) ≤ 1 + y by omega) (by omega) (by omega)
      omega
     generalize hq : p * (1 + y) = q at *
     by_cases hq2 : 2000 < q
     ·rw [if_pos hq2] at hb
      repeat' (first
  | (refine H_cons ?_; simp [hx, hm, hn60, hn61, hq, hq2])
  | (refine H_nil ?_; simp [hx, hm, hn60, hn61, hq, hq2])
  | (refine ⟨by omega, ?_⟩)
  | (refine V_sseq ?_; simp [hx, hm, hn60, hn61, hq, hq2])
  | (refine V_scond ?_; simp [hx, hm, hn60, hn61, hq, hq2])
  | (refine V_ret ?_; simp only [RunK])
  | (refine V_skip ?_; simp only [RunK])
  | (refine ⟨?_, by omega⟩)
  | (intro hc <;> (try (exfalso; omega)))
  | (refine CallP.fun_ (h5) (by first | rfl | fail) (by first | assumption | (simp; done) | fail) (by first | (simp [hx, hm, hn60, hn61, hq, hq2]; done) | (simp [hx, hm, hn60, hn61, hq, hq2]; rfl) | fail) (by first | (simp; done) | fail) (fun d hd => ?_); subst hd; (try simp [hx, hm, hn60, hn61, hq, hq2]))
  | (refine CallP.fun_ (h6) (by first | rfl | fail) (by first | assumption | (simp; done) | fail) (by first | (simp [hx, hm, hn60, hn61, hq, hq2]; done) | (simp [hx, hm, hn60, hn61, hq, hq2]; rfl) | fail) (by first | (simp; done) | fail) (fun d hd => ?_); subst hd; (try simp [hx, hm, hn60, hn61, hq, hq2]))
  | fail)
      (refine EndOK.val (.inr rfl) ?_; simp [resD, oneOrTup, pureD, Tryd.results10])
      simp [hb]
     ·rw [if_neg hq2] at hb
      repeat' (first
  | (refine H_cons ?_; simp [hx, hm, hn60, hn61, hq, hq2])
  | (refine H_nil ?_; simp [hx, hm, hn60, hn61, hq, hq2])
  | (refine ⟨by omega, ?_⟩)
  | (refine V_sseq ?_; simp [hx, hm, hn60, hn61, hq, hq2])
  | (refine V_scond ?_; simp [hx, hm, hn60, hn61, hq, hq2])
  | (refine V_sregion ?_; simp [hx, hm, hn60, hn61, hq, hq2])
  | (refine V_skip ?_; simp only [RunK])
  | (refine ⟨?_, by omega⟩)
  | (intro hc <;> (try (exfalso; omega)))
  | (refine CallP.fun_ (h5) (by first | rfl | fail) (by first | assumption | (simp; done) | fail) (by first | (simp [hx, hm, hn60, hn61, hq, hq2]; done) | (simp [hx, hm, hn60, hn61, hq, hq2]; rfl) | fail) (by first | (simp; done) | fail) (fun d hd => ?_); subst hd; (try simp [hx, hm, hn60, hn61, hq, hq2]))
  | (refine CallP.fun_ (h6) (by first | rfl | fail) (by first | assumption | (simp; done) | fail) (by first | (simp [hx, hm, hn60, hn61, hq, hq2]; done) | (simp [hx, hm, hn60, hn61, hq, hq2]; rfl) | fail) (by first | (simp; done) | fail) (fun d hd => ?_); subst hd; (try simp [hx, hm, hn60, hn61, hq, hq2]))
  | fail)
      refine LoopW.next ⟨(i + 1, q), hlt, by omega, hpy1, by omega, hb⟩ (by simp; omega) ?_
      exact (Wk.env rfl rfl rfl (by simp [wkE, St.lp, keepE, getK_cons, getK] <;> (try (intros; simp_all; done)) <;> (try (intros; omega)) <;> (try grind)))
  ·rw [if_neg hm] at hb
   subst hb
   repeat' (first
  | (refine H_cons ?_; simp [hx, hm])
  | (refine H_nil ?_; simp [hx, hm])
  | (refine V_sseq ?_; simp [hx, hm])
  | (refine V_scond ?_; simp [hx, hm])
  | (refine V_sblock ?_; simp [hx, hm])
  | (refine V_exit ?_; simp [RunK])
  | (refine ⟨?_, by omega⟩)
  | (intro hc <;> (try (exfalso; omega)))
  | fail)
   refine V_loopF (α := { i : Nat // i ≤ vs.length ∧ (i : Int) ≤ 21 ∧ ∀ v ∈ vs.take i, decide (v.name.length ≤ 40) = true }) [0, 1] (fun i => [(7, .u (.int .i64 i.1))]) (fun i => vs.length - i.1) ⟨0, by omega, by omega, by simp⟩ ?_ ?_
   ·exact (Wk.env rfl rfl rfl (by simp [wkE, St.lp, keepE, getK_cons, getK] <;> (try (intros; simp_all; done)) <;> (try (intros; omega)) <;> (try grind)))
   rintro ⟨k, hk0, hkn, hkb⟩
   simp [St.lp, St.only, keepE, getK_cons, getK]
   have fin : (k = vs.length ∨ (k : Int) = 21) → C = true := fun h => by
    rw [← hV, List.all_eq_true]
    intro v hv
    refine hkb v ?_
    rcases h with h | h
    ·rw [h, List.take_length]; exact List.mem_of_mem_take hv
    ·rw [show k = 21 by omega]; exact hv
   rcases hy : vs[k]? with _ | v
   ·have hge2 : vs.length ≤ k := by simpa using hy
    obtain rfl : k = vs.length := by omega
    have := fin (.inl rfl)
    subst this
    repeat' (first
  | (refine H_cons ?_; simp [hy])
  | (refine H_nil ?_; simp [hy])
  | (refine ⟨by omega, ?_⟩)
  | (refine V_sseq ?_; simp [hy])
  | (refine V_scond ?_; simp [hy])
  | (refine V_ret ?_; simp only [RunK])
  | (refine V_exit ?_; simp [RunK])
  | (intro hc <;> (try (exfalso; omega)))
  | fail)
    all_goals
     (refine EndOK.val (.inr rfl) ?_; simp [resD, oneOrTup, pureD, Tryd.results10])
    all_goals (clear hB hV fin; simp_all <;> (try (intros; omega)))
   ·have hlt2 : k < vs.length := (List.getElem?_eq_some_iff.1 hy).1
    by_cases hm2 : (k : Int) ≤ 20
    ·by_cases hnv : 40 < v.name.length
     ·have hnv1 : 40 < (v.name.length : Int) := by omega
      repeat' (first
  | (refine H_cons ?_; simp [hy, hm2, hnv, hnv1])
  | (refine H_nil ?_; simp [hy, hm2, hnv, hnv1])
  | (refine V_sseq ?_; simp [hy, hm2, hnv, hnv1])
  | (refine V_scond ?_; simp [hy, hm2, hnv, hnv1])
  | (refine V_ret ?_; simp only [RunK])
  | (refine V_skip ?_; simp only [RunK])
  | (refine ⟨?_, by omega⟩)
  | (intro hc <;> (try (exfalso; omega)))
  | fail)
      (refine EndOK.val (.inr rfl) ?_; simp [resD, oneOrTup, pureD, Tryd.results10])
      have : C = false := by
       rw [← hV, List.all_eq_false]
       exact ⟨v, List.mem_of_getElem? (i := k) (by rw [List.getElem?_take, if_pos (by omega)]; exact hy), by simp; omega⟩
      simp [this]
     ·have hnv1 : ¬ 40 < (v.name.length : Int) := by omega
      repeat' (first
  | (refine H_cons ?_; simp [hy, hm2, hnv, hnv1])
  | (refine H_nil ?_; simp [hy, hm2, hnv, hnv1])
  | (refine ⟨by omega, ?_⟩)
  | (refine V_sseq ?_; simp [hy, hm2, hnv, hnv1])
  | (refine V_scond ?_; simp [hy, hm2, hnv, hnv1])
  | (refine V_sregion ?_; simp [hy, hm2, hnv, hnv1])
  | (refine V_skip ?_; simp only [RunK])
  | (refine ⟨?_, by omega⟩)
  | (intro hc <;> (try (exfalso; omega)))
  | fail)
      refine LoopW.next ⟨k + 1, by omega, by omega, take_succ_all hy hkb (by simp; omega)⟩ (by simp; omega) ?_
      exact (Wk.env rfl rfl rfl (by simp [wkE, St.lp, keepE, getK_cons, getK] <;> (try (intros; simp_all; done)) <;> (try (intros; omega)) <;> (try grind)))
    ·have := fin (.inr (by omega))
     subst this
     repeat' (first
  | (refine H_cons ?_; simp [hy, hm2])
  | (refine H_nil ?_; simp [hy, hm2])
  | (refine ⟨by omega, ?_⟩)
  | (refine V_sseq ?_; simp [hy, hm2])
  | (refine V_scond ?_; simp [hy, hm2])
  | (refine V_ret ?_; simp only [RunK])
  | (refine V_exit ?_; simp [RunK])
  | (refine ⟨?_, by omega⟩)
  | (intro hc <;> (try (exfalso; omega)))
  | fail)
     all_goals
      (refine EndOK.val (.inr rfl) ?_; simp [resD, oneOrTup, pureD, Tryd.results10])
     all_goals (clear hB hV fin; simp_all <;> (try (intros; omega)))
end Go.Proofs.YtfcopibncpkdoaaDoor
namespace Go.Proofs.YtfcopibncpkdoaaDoor
open Go Go.VL
def TM.Pure (f : TM) : Prop := ∀ t, f t = ((f []).1, t)
theorem TM.Pure.ret (x) : TM.Pure (TM.ret x) := fun t => rfl
theorem TM.Pure.bind {f : TM} {g : Int → TM} (hf : f.Pure) (hg : ∀ a, (g a).Pure) : (f.bind g).Pure := fun t => by
 unfold TM.bind
 rw [hf t, hf []]
 rcases (f []).1 with e | v
 ·rfl
 ·exact hg v t
theorem TM.Pure.bind1 {f : TM} {g : Int → TM} (hf : f.Pure) (t : Tab) : (f.bind g t).1 = match (f []).1 with | .ok v => (g v t).1 | .error e => .error e := by
 unfold TM.bind
 rw [hf t]
 cases (f []).1 <;> rfl
mutual
theorem valT_pure {nm : List UInt8 → TM} {sh : Exp → Bool} (hn : ∀ s, (nm s).Pure) : ∀ e : Exp, (valT nm sh e).Pure
 | .mk op n u s args => by
  have h := fun i => valN_pure (sh := sh) hn args i
  rw [valT]
  split
  ·exact .ret _
  split
  ·exact hn s
  split
  ·refine .bind (h 0) fun a => ?_
   split
   ·exact .ret _
   ·exact .bind (h 1) fun b => .ret _
  split
  ·refine .bind (h 0) fun a => ?_
   split
   ·exact .ret _
   ·exact .bind (h 1) fun b => .ret _
  split
  ·exact .bind (h 0) fun a => .ret _
  split
  ·refine .bind (h 0) fun a => ?_
   split
   ·exact h 1
   ·exact h 2
  ·exact .bind (h 0) fun a => .bind (h 1) fun b => .ret _
theorem valN_pure {nm : List UInt8 → TM} {sh : Exp → Bool} (hn : ∀ s, (nm s).Pure) : ∀ (l : List Exp) (i : Nat), (valN nm sh l i).Pure
 | [], i => by rw [valN]; exact .ret _
 | e :: l, 0 => by rw [valN]; exact valT_pure hn e
 | e :: l, i + 1 => by rw [valN]; exact valN_pure hn l i
end
/-- Names without a table. -/
def nmP (lets : List Let) (G : List UInt8 → Option Int) : Nat → List UInt8 → TM
 | 0, s => .ret (match G s with | some v => .ok v | none => .error 13)
 | n + 1, s => match G s with
  | some v => .ret (.ok v)
  | none => match lets[n]? with
   | none => .ret (.error 13)
   | some l => if l.name = s then .ret (valT (nmP lets G n) (shareP (lets.take n)) l.body []).1 else nmP lets G n s
def valX (lets : List Let) (G : List UInt8 → Option Int) (n : Nat) (e : Exp) : Except Int Int := (valT (nmP lets G n) (shareP (lets.take n)) e []).1
theorem nmP_pure {lets G} : ∀ (n : Nat) (s : List UInt8), (nmP lets G n s).Pure
 | 0, s => by rw [nmP]; exact .ret _
 | n + 1, s => by
  rw [nmP]
  split
  ·exact .ret _
  ·split
   ·exact .ret _
   ·split
    ·exact .ret _
    ·exact nmP_pure n s
/-- A table that holds what the lets' bodies have. -/
def TabV (lets : List Let) (G : List UInt8 → Option Int) (t : Tab) : Prop := ∀ (i : Nat) (v e : Int), t[i]? = some (v, e, true) → ∃ l, lets[i]? = some l ∧ (v, e, true) = entX (valX lets G i l.body)
def Sm (lets : List Let) (G : List UInt8 → Option Int) (f f' : TM) : Prop := ∀ t, TabOK lets.length t → TabV lets G t → (f t).1 = (f' []).1 ∧ TabV lets G (f t).2
theorem Sm.ret {lets G x} : Sm lets G (TM.ret x) (TM.ret x) := fun t _ h => ⟨rfl, h⟩
theorem Sm.bind {lets G} {f f' : TM} {g g' : Int → TM} (hf : Sm lets G f f') (hk : TMok lets.length f) (hp : f'.Pure) (hg : ∀ a, Sm lets G (g a) (g' a)) : Sm lets G (f.bind g) (f'.bind g') := fun t h1 h2 => by
 obtain ⟨e1, v1⟩ := hf t h1 h2
 obtain ⟨k1, _, _⟩ := hk t h1
 unfold TM.bind
 rcases hft : f t with ⟨er | v, t'⟩
 ·rw [hft] at e1 v1
  simp only at e1 v1
  rw [hp [], ← e1]
  exact ⟨rfl, v1⟩
 ·rw [hft] at e1 v1 k1
  simp only at e1 v1 k1
  rw [hp [], ← e1]
  exact hg v t' k1 v1
theorem valT_sm {lets G nm nm' sh} (hn : ∀ s, Sm lets G (nm s) (nm' s)) (ho : ∀ s, TMok lets.length (nm s)) (hp : ∀ s, (nm' s).Pure) : ∀ (d : Nat) (e : Exp), rightB d e = true → Sm lets G (valT nm sh e) (valT nm' sh e)
 | 0, e, h => by simp [rightB] at h
 | d + 1, e, h => by
  obtain ⟨h1, h2, h3, h4⟩ := right_args h
  rw [valT_eq, valT_eq]
  by_cases c0 : e.op = 0
  ·rw [if_pos c0, if_pos c0]; exact .ret
  rw [if_neg c0, if_neg c0]
  by_cases c1 : e.op = 1
  ·rw [if_pos c1, if_pos c1]; exact hn _
  rw [if_neg c1, if_neg c1]
  have hS : ∀ i : Nat, (i : Int) < operandsI e.op → Sm lets G (valN nm sh e.args i) (valN nm' sh e.args i) := fun i hi => by
   have hlt : i < e.args.length := by omega
   rw [valN_at (List.getElem?_eq_getElem hlt), valN_at (List.getElem?_eq_getElem hlt)]
   exact valT_sm hn ho hp d _ (h4 c0 c1 _ (List.getElem_mem hlt))
  have hO : ∀ i : Nat, (i : Int) < operandsI e.op → TMok lets.length (valN nm sh e.args i) := fun i hi => by
   have hlt : i < e.args.length := by omega
   rw [valN_at (List.getElem?_eq_getElem hlt)]
   exact valT_ok ho d _ (h4 c0 c1 _ (List.getElem_mem hlt))
  have hP : ∀ i, (valN nm' sh e.args i).Pure := fun i => valN_pure hp _ i
  by_cases c2 : e.op = 10
  ·rw [if_pos c2, if_pos c2]
   rw [c2] at hS hO
   refine .bind (hS 0 (by decide)) (hO 0 (by decide)) (hP 0) fun a => ?_
   split
   ·exact .ret
   ·exact .bind (hS 1 (by decide)) (hO 1 (by decide)) (hP 1) fun b => .ret
  rw [if_neg c2, if_neg c2]
  by_cases c3 : e.op = 11
  ·rw [if_pos c3, if_pos c3]
   rw [c3] at hS hO
   refine .bind (hS 0 (by decide)) (hO 0 (by decide)) (hP 0) fun a => ?_
   split
   ·exact .ret
   ·exact .bind (hS 1 (by decide)) (hO 1 (by decide)) (hP 1) fun b => .ret
  rw [if_neg c3, if_neg c3]
  by_cases c4 : e.op = 12
  ·rw [if_pos c4, if_pos c4]
   rw [c4] at hS hO
   exact .bind (hS 0 (by decide)) (hO 0 (by decide)) (hP 0) fun a => .ret
  rw [if_neg c4, if_neg c4]
  by_cases c5 : e.op = 13
  ·rw [if_pos c5, if_pos c5]
   rw [c5] at hS hO
   refine .bind (hS 0 (by decide)) (hO 0 (by decide)) (hP 0) fun a => ?_
   split
   ·exact hS 1 (by decide)
   ·exact hS 2 (by decide)
  rw [if_neg c5, if_neg c5]
  have ho : operandsI e.op = 2 := by unfold operandsI; split <;> first | omega | (split <;> first | omega | (split <;> first | omega | (split <;> omega)))
  rw [ho] at hS hO
  exact .bind (hS 0 (by decide)) (hO 0 (by decide)) (hP 0) fun a => .bind (hS 1 (by decide)) (hO 1 (by decide)) (hP 1) fun b => .ret
theorem entX_out {r : Except Int Int} (h : ∀ e, r = .error e → e ≠ 0) : outX (entX r).1 (entX r).2.1 = r := by
 cases r with
 | ok v => rfl
 | error e => simp [entX, outX, h e rfl]
theorem nmT_sm {lets : List Let} {G : List UInt8 → Option Int} (hl : ∀ l ∈ lets, rightB 12 l.body = true) (hg : ∀ s v, G s = some v → inC v) : ∀ n s, Sm lets G (nmT lets G n s) (nmP lets G n s)
 | 0, s => by rw [nmT, nmP]; exact .ret
 | n + 1, s => by
  rw [nmT, nmP]
  cases hgs : G s with
  | some v => exact .ret
  | none =>
   simp only
   cases hx : lets[n]? with
   | none => exact .ret
   | some l =>
    simp only
    split
    ·intro t ht hv
     have hrl := hl l (List.mem_of_getElem? hx)
     obtain ⟨g1, g2, g3⟩ := valT_ok (nmT_ok hl hg n) 12 l.body hrl (sh := shareP (lets.take n)) t ht
     obtain ⟨e1, e2⟩ := valT_sm (fun s => nmT_sm hl hg n s) (nmT_ok hl hg n) (fun s => nmP_pure n s) 12 l.body hrl (sh := shareP (lets.take n)) t ht hv
     have hne : ∀ e, (valT (nmP lets G n) (shareP (lets.take n)) l.body []).1 = .error e → e ≠ 0 := fun e h => g3 e (by rw [e1]; exact h)
     have main : outX (entX (valT (nmT lets G n) (shareP (lets.take n)) l.body t).1).1 (entX (valT (nmT lets G n) (shareP (lets.take n)) l.body t).1).2.1 = (valT (nmP lets G n) (shareP (lets.take n)) l.body []).1 ∧
       TabV lets G ((valT (nmT lets G n) (shareP (lets.take n)) l.body t).2.set n (entX (valT (nmT lets G n) (shareP (lets.take n)) l.body t).1)) := by
      rw [e1]
      refine ⟨entX_out hne, fun i v e hi => ?_⟩
      rw [List.getElem?_set] at hi
      split at hi
      ·rename_i hni
       subst hni
       split at hi
       ·exact ⟨l, hx, (Option.some.inj hi).symm⟩
       ·cases hi
      ·exact e2 i v e hi
     rcases hti : t[n]? with _ | ⟨v, e, d⟩
     ·simp only [hti]; exact main
     ·cases d
      ·simp only [hti]; exact main
      ·simp only [hti]
       obtain ⟨l', h5, h6⟩ := hv n v e hti
       rw [hx] at h5
       cases h5
       refine ⟨?_, hv⟩
       have h7 : (v, e, true) = entX (valX lets G n l.body) := h6
       have h8 : v = (entX (valX lets G n l.body)).1 := by rw [← h7]
       have h9 : e = (entX (valX lets G n l.body)).2.1 := by rw [← h7]
       rw [h8, h9]
       exact entX_out hne
    ·exact nmT_sm hl hg n s
/-- The value without a table. -/
theorem valL_valX {lets : List Let} {G : List UInt8 → Option Int} (hl : ∀ l ∈ lets, rightB 12 l.body = true) (hg : ∀ s v, G s = some v → inC v) (n d : Nat) (e : Exp) (h : rightB d e = true) (t : Tab) (ht : TabOK lets.length t) (hv : TabV lets G t) :
  (valL lets G n e t).1 = valX lets G n e ∧ TabV lets G (valL lets G n e t).2 :=
 valT_sm (fun s => nmT_sm hl hg n s) (nmT_ok hl hg n) (fun s => nmP_pure n s) d e h t ht hv
end Go.Proofs.YtfcopibncpkdoaaDoor
namespace Go.Proofs.YtfcopibncpkdoaaDoor
open Go Go.VL
section
variable {m m' : List UInt8 → Bool} {s : List UInt8}
end
section
variable {nm nm' : List UInt8 → TM} {sh sh' : Exp → Bool} {s : List UInt8}
end
end Go.Proofs.YtfcopibncpkdoaaDoor
namespace Go.Proofs.YtfcopibncpkdoaaDoor
open Go Go.VL
theorem gV_inC {vars : List Var} (h : vars.all inCB = true) : ∀ s v, gF (gV vars) s = some v → inC v := gV_in vars [] (fun s v h => by simp [asc] at h) (by simpa [List.all_eq_true] using h)
theorem tab0_ok (lets : List Let) : TabOK lets.length (tab0 lets) := ⟨by simp [tab0], fun i v e d h => by
 simp only [tab0, List.getElem?_replicate] at h
 split at h
 ·cases h; exact ⟨by decide, by decide⟩
 ·cases h⟩
theorem tab0_v (lets : List Let) (G) : TabV lets G (tab0 lets) := fun i v e h => by
 simp only [tab0, List.getElem?_replicate] at h
 split at h <;> cases h
/-- Value without a table. -/
theorem valueP_eq (lets : List Let) (vars : List Var) (e : Exp) : valueP lets vars e = if rightAll lets e = true ∧ vars.all inCB = true then ((entX (valX lets (gF (gV vars)) lets.length e)).1, (entX (valX lets (gF (gV vars)) lets.length e)).2.1) else (0, 1) := by
 unfold valueP
 by_cases h : rightAll lets e = true ∧ vars.all inCB = true
 ·rw [if_pos h, if_pos h]
  obtain ⟨_, h2, h3⟩ := rights_out h.1
  rw [(valL_valX h3 (gV_inC h.2) lets.length 12 e h2 (tab0 lets) (tab0_ok lets) (tab0_v lets _)).1]
 ·rw [if_neg h, if_neg h]
theorem nmP_0 (lets : List Let) (G : List UInt8 → Option Int) (s : List UInt8) : nmP lets G 0 s = .ret (match G s with | some v => .ok v | none => .error 13) := by rw [nmP]; try rfl
end Go.Proofs.YtfcopibncpkdoaaDoor
namespace Go.Proofs.YtfcopibncpkdoaaDoor
open Go Go.VL
attribute [local simp] hcons hstep evPure opd uOf putOK St.put St.at getK binD binI binS binB nilD aggD eqUs cmpK lookD lookR rangeD Go.VL.nextD entryD keyD valU keyU lookK mkV entD_nil lookK_entD updK_entD1 updK_entD3 allUE allUE_entD makeMapD mapUpdD mapEff updK valM Key.kk shiftI arith unD convD pickD loadD cellsAt fieldAddrD fieldD indexAddrD indexD sliceD cutD lenD minmaxD nilCheckD buildD fillD cellsD isOne ones setAll mkAgg allU allocD boxD storeD St.add buildSliceD appendD rowsOf makeD setOb getK_setOb getK_del getK_cons stripL strip guardTmp entry chunks zcells valD argsV argsW argW argU1 argU0 argsU0 argsU1 calleeOf scalarD scalarU delAll effD St.effS RK_seq RK_seq_ret RK_seq_exit RK_blk RK_blk_ret RK_blk_exit RK_loop RK_loop_ret RK_loop_exit RK_done vs_seq vs_block vs_cond vs_region vs_loop vs_draw applyW mkD rdIds lentIds callOf calleeOf freeOp D.ids Op.operands Call.operands isEffOp makeIfD typeAssertD conc concs conc1 uOfV panicD IntKind.bits allU2 allU2_append List.take_of_length_le List.range_succ
attribute [local irreducible] V G H HD HD2 RunK Eff CallP CallV EndOK Fun Ret FinOK LoopI LoopW EndW
def unitQ (lets : List Let) (names : List Var) (e : Exp) : Int × Int := if okJ lets names e = true then unitS (gF (gOf names)) (mF (mOf (gOf names) lets)) e else (0, 1)
theorem unitOf_fun (lets : List Let) (names : List Var) (e : Exp) : Fun Tryd.prog 37 [.u (letsU lets), .u (varsU names), eagg e] (· = .tup [.u (.int .i64 (unitQ lets names e).1), .u (.int .i64 (unitQ lets names e).2)]) := by
 have h1 := judge_fun lets names e
 unfold unitQ
 unfold judgeD at h1
 cases hK : okJ lets names e
 ·rw [hK] at h1
  simp only [letsU, varsU, eagg, Bool.false_eq_true, if_false] at h1 ⊢
  (refine Fun.of_body Tryd.func37 rfl (by simp) fun Γ hn => ?_); simp only [entry, List.zipIdx_cons, List.zipIdx_nil, List.map_cons, List.map_nil, Nat.zero_add, Tryd.ntmps37]
  repeat' (first
  | (refine H_cons ?_; simp)
  | (refine H_nil ?_; simp)
  | (refine V_sseq ?_; simp)
  | (refine V_scond ?_; simp)
  | (refine V_ret ?_; simp only [RunK])
  | (refine CallP.fun_ (h1) (by first | rfl | fail) (by first | assumption | (simp; done) | fail) (by first | (simp; done) | (simp; rfl) | fail) (by first | (simp; done) | fail) (fun d hd => ?_); subst hd; (try simp))
  | fail)
  (refine EndOK.val (.inr rfl) ?_; simp [resD, oneOrTup, pureD, Tryd.results37])
 ·rw [hK] at h1
  have hre : rightB 12 e = true := by
   simp only [okJ, Bool.and_eq_true] at hK
   exact (rights_out hK.1).2.1
  have h2 := unit_fun (gOf names) (mOf (gOf names) lets) 12 e hre
  simp only [letsU, varsU, eagg, if_true, jU] at h1 h2 ⊢
  generalize unitS (gF (gOf names)) (mF (mOf (gOf names) lets)) e = r at h2 ⊢
  (refine Fun.of_body Tryd.func37 rfl (by simp) fun Γ hn => ?_); simp only [entry, List.zipIdx_cons, List.zipIdx_nil, List.map_cons, List.map_nil, Nat.zero_add, Tryd.ntmps37]
  repeat' (first
  | (refine H_cons ?_; simp)
  | (refine H_nil ?_; simp)
  | (refine V_sseq ?_; simp)
  | (refine V_scond ?_; simp)
  | (refine V_ret ?_; simp only [RunK])
  | (refine V_skip ?_; simp only [RunK])
  | (refine CallP.fun_ (h1) (by first | rfl | fail) (by first | assumption | (simp; done) | fail) (by first | (simp; done) | (simp; rfl) | fail) (by first | (simp; done) | fail) (fun d hd => ?_); subst hd; (try simp))
  | (refine CallP.fun_ (h2) (by first | rfl | fail) (by first | assumption | (simp; done) | fail) (by first | (simp; done) | (simp; rfl) | fail) (by first | (simp; done) | fail) (fun d hd => ?_); subst hd; (try simp))
  | fail)
  (refine EndOK.val (.inr rfl) ?_; simp [resD, oneOrTup, pureD, Tryd.results37])
def namesS (c : List UInt8) : List Var :=
 if c = [100, 117, 101] then [⟨[109, 101, 109, 98, 101, 114, 115], 1, 0⟩, ⟨[112, 101, 114, 105, 111, 100], 1, 0⟩, ⟨[108, 97, 115, 116], 1, 0⟩, ⟨[97, 103, 101], 2, 0⟩]
 else if c = [102, 105, 110, 101] then [⟨[108, 97, 116, 101], 2, 0⟩, ⟨[109, 101, 109, 98, 101, 114, 115], 1, 0⟩, ⟨[112, 101, 114, 105, 111, 100], 1, 0⟩, ⟨[108, 97, 115, 116], 1, 0⟩, ⟨[97, 103, 101], 2, 0⟩]
 else if c = [112, 97, 121] then [⟨[112, 111, 116], 3, 0⟩, ⟨[98, 105, 100], 3, 0⟩, ⟨[109, 101, 109, 98, 101, 114, 115], 1, 0⟩, ⟨[112, 101, 114, 105, 111, 100], 1, 0⟩]
 else if c = [99, 111, 118, 101, 114] then [⟨[112, 97, 105, 100], 3, 0⟩, ⟨[99, 108, 97, 105, 109, 115], 1, 0⟩, ⟨[97, 103, 101], 2, 0⟩, ⟨[109, 101, 109, 98, 101, 114, 115], 1, 0⟩]
 else if c = [104, 111, 108, 100] then [⟨[109, 101, 109, 98, 101, 114, 115], 1, 0⟩, ⟨[104, 111, 108, 100, 115], 3, 0⟩]
 else []
def clausesL : List (List UInt8) := [[100, 117, 101], [102, 105, 110, 101], [112, 97, 121], [99, 111, 118, 101, 114], [104, 111, 108, 100]]
def expS (b : By) (c : List UInt8) : Exp :=
 if c = [100, 117, 101] then b.due else if c = [102, 105, 110, 101] then b.fine else if c = [112, 97, 121] then b.pay else if c = [99, 111, 118, 101, 114] then b.cover else b.hold
def givenB (s : List UInt8) : Bool := clausesL.any fun c => (namesS c).any fun v => decide (v.name = s)
theorem find_at {α : Type} {p : α → Bool} {l : List α} {i : Nat} {x : α} (h : ∀ c ∈ l.take i, p c = false) (hx : l[i]? = some x) (hp : p x = true) : l.find? p = some x := by
 induction l generalizing i with
 | nil => simp at hx
 | cons a l ih =>
  cases i with
  | zero => simp at hx; subst hx; simp [hp]
  | succ i =>
   rw [List.find?_cons, h a (by simp)]
   exact ih (i := i) (fun c hc => h c (by simp [hc])) (by simpa using hx)
theorem find_no {α : Type} {p : α → Bool} {l : List α} (h : ∀ c ∈ l, p c = false) : l.find? p = none := by
 rw [List.find?_eq_none]
 intro x hx
 simp [h x hx]
def entC (c : List UInt8) : Key × List U := (Key.s c, [varsU (namesS c)])
def givenM : List (Key × List U) := clausesL.map entC
theorem given_fun : Fun Tryd.prog 34 [] (· = .tup [.u (strs clausesL), .u (.map .s false givenM)]) := by
 (refine Fun.of_bodyW Tryd.func34 rfl (by simp) fun Γ hn => ?_); simp only [entry, List.zipIdx_cons, List.zipIdx_nil, List.map_cons, List.map_nil, Nat.zero_add, Tryd.ntmps34]
 repeat' (first
  | (refine H_cons ?_; simp [zcells, chunks])
  | (refine H_nil ?_; simp [zcells, chunks])
  | (refine V_sseq ?_; simp [zcells, chunks])
  | (refine V_drawN rfl (by kernel_rfl) (by kernel_rfl) (by simp [hn]) fun C k hC hk => ?_; simp [zcells, chunks])
  | (refine HD3_val rfl ?_; simp [zcells, chunks])
  | (refine HD3_put ?_; simp [zcells, chunks])
  | (refine HD3_chg rfl rfl ?_; simp [zcells, chunks])
  | (refine HD3_nil (hC _ _ (by kernel_rfl) (by kernel_rfl)) (hk _ ?_); clear hC hk C k; simp only [RunK]; simp [St.ins, insL, putE, getK_setOb, getK_cons])
  | (refine V_ret ?_; simp only [RunK])
  | fail)
 (refine EndW.frzN 8 ?_; simp [frzN, frz1, frz_env, frz_obs, St.frz, St.frzS, frzS, fv, fzVec, fzMap, fzBox, frzObS, frz_entD, frz_rowsD, del, frz, frzOb])
 refine EndW.here ?_
 (refine EndOK.val (.inr rfl) ?_; simp [resD, oneOrTup, pureD, Tryd.results34])
 simp [strs, clausesL, givenM, entC, varsU, namesS]
theorem look_given (c : List UInt8) : lookK givenM (.s c) = if c ∈ clausesL then some [varsU (namesS c)] else none := by
 simp only [givenM, clausesL, List.map_cons, List.map_nil, entC, lookK, Key.s.injEq, List.mem_cons, List.not_mem_nil, or_false]
 repeat' split
 all_goals simp_all
def vagg (v : Var) : D := .u (.agg [.str v.name, .int .i64 v.unit, .int .i64 v.n])
theorem indexV_fun (l : List (Var)) (f : FuncId) (caps : List U) (p : Var → Bool) (hf : ∀ n ∈ l, Fun Tryd.prog f (vagg n :: caps.map .u) (· = .u (.bool (p n)))) (hcl : callable Tryd.prog f = true)
  (hca : ∀ o, argsW o (caps.map .u) = some (caps.map .u, [])) : Fun Tryd.prog 63 [.u (varsU l), .fnc (.func f) (caps.map .u)] (· = .u (.int .i64 (idxP p l 0))) := by
 (refine Fun.of_body Tryd.func63 rfl (by simp) fun Γ hn => ?_); simp only [entry, List.zipIdx_cons, List.zipIdx_nil, List.map_cons, List.map_nil, Nat.zero_add, Tryd.ntmps63]
 simp only [varsU]
 refine V_len (x := 0) rfl fun hl => ?_
 simp at hl
 repeat' (first
  | (refine H_cons ?_; simp)
  | (refine H_nil ?_; simp)
  | (refine V_sseq ?_; simp)
  | (refine V_sblock ?_; simp)
  | fail)
 refine V_loopF (α := { i : Nat // i ≤ l.length ∧ ∀ c ∈ l.take i, p c = false }) [0, 1, 7] (fun i => [(8, .u (.int .i64 i.1))]) (fun i => l.length - i.1) ⟨0, by omega, by simp⟩ ?_ ?_
 ·exact (Wk.env rfl rfl rfl (by simp [wkE, St.lp, keepE, getK_cons, getK] <;> (try (intros; simp_all; done)) <;> (try (intros; omega)) <;> (try grind)))
 rintro ⟨i, hi, hb⟩
 simp [St.lp, St.only, keepE, getK_cons, getK]
 rcases hx : l[i]? with _ | n
 ·have hge : l.length ≤ i := by simpa using hx
  repeat' (first
  | (refine H_cons ?_; simp [hx])
  | (refine H_nil ?_; simp [hx])
  | (refine ⟨by omega, ?_⟩)
  | (refine V_sseq ?_; simp [hx])
  | (refine V_ret ?_; simp only [RunK])
  | (refine V_exit ?_; simp [RunK])
  | (intro hc <;> (try (exfalso; omega)))
  | fail)
  (refine EndOK.val (.inr rfl) ?_; simp [resD, oneOrTup, pureD, Tryd.results63])
  rw [List.take_of_length_le hge] at hb
  exact (idxP_none hb).symm
 ·have hlt : i < l.length := (List.getElem?_eq_some_iff.1 hx).1
  have h1 := hf n (List.mem_of_getElem? hx)
  simp only [vagg] at h1
  cases hp : p n
  ·rw [hp] at h1
   repeat' (first
  | (refine H_cons ?_; simp [hx, hca])
  | (refine H_nil ?_; simp [hx, hca])
  | (refine ⟨by omega, ?_⟩)
  | (refine V_sseq ?_; simp [hx, hca])
  | (refine V_scond ?_; simp [hx, hca])
  | (refine V_sregion ?_; simp [hx, hca])
  | (refine V_skip ?_; simp only [RunK])
  | (refine ⟨?_, by omega⟩)
  | (intro hc <;> (try (exfalso; omega)))
  | (refine CallP.fun_ (h1) (by first | rfl | fail) (by first | assumption | (simp; done) | fail) (by first | (simp [hx, hca]; done) | (simp [hx, hca]; rfl) | fail) (by first | (simp; done) | fail) (fun d hd => ?_); subst hd; (try simp [hx, hca]))
  | fail)
   refine LoopW.next ⟨i + 1, by omega, take_succ_all hx hb hp⟩ (by simp; omega) ?_
   exact (Wk.env rfl rfl rfl (by simp [wkE, St.lp, keepE, getK_cons, getK] <;> (try (intros; simp_all; done)) <;> (try (intros; omega)) <;> (try grind)))
  ·rw [hp] at h1
   repeat' (first
  | (refine H_cons ?_; simp [hx, hca])
  | (refine H_nil ?_; simp [hx, hca])
  | (refine V_sseq ?_; simp [hx, hca])
  | (refine V_scond ?_; simp [hx, hca])
  | (refine V_ret ?_; simp only [RunK])
  | (refine V_skip ?_; simp only [RunK])
  | (refine ⟨?_, by omega⟩)
  | (intro hc <;> (try (exfalso; omega)))
  | (refine CallP.fun_ (h1) (by first | rfl | fail) (by first | assumption | (simp; done) | fail) (by first | (simp [hx, hca]; done) | (simp [hx, hca]; rfl) | fail) (by first | (simp; done) | fail) (fun d hd => ?_); subst hd; (try simp [hx, hca]))
  | fail)
   (refine EndOK.val (.inr rfl) ?_; simp [resD, oneOrTup, pureD, Tryd.results63])
   rw [idxP_at hb hx hp]
   omega
theorem containsV_fun (l : List (Var)) (f : FuncId) (caps : List U) (p : Var → Bool) (hf : ∀ n ∈ l, Fun Tryd.prog f (vagg n :: caps.map .u) (· = .u (.bool (p n)))) (hcl : callable Tryd.prog f = true)
  (hca : ∀ o, argsW o (caps.map .u) = some (caps.map .u, [])) (hcb : ∀ o, argsU1 o (caps.map .u) = some (caps, [])) : Fun Tryd.prog 35 [.u (varsU l), .fnc (.func f) (caps.map .u)] (· = .u (.bool (l.any p))) := by
 have h1 := indexV_fun l f caps p hf hcl hca
 (refine Fun.of_body Tryd.func35 rfl (by simp) fun Γ hn => ?_); simp only [entry, List.zipIdx_cons, List.zipIdx_nil, List.map_cons, List.map_nil, Nat.zero_add, Tryd.ntmps35]
 simp only [varsU] at h1 ⊢
 repeat' (first
  | (refine H_cons ?_; simp [hcb])
  | (refine H_nil ?_; simp [hcb])
  | (refine V_sseq ?_; simp [hcb])
  | (refine V_ret ?_; simp only [RunK])
  | (refine CallP.fun_ (h1) (by first | rfl | fail) (by first | assumption | (simp; done) | fail) (by first | (simp [hcb]; done) | (simp [hcb]; rfl) | fail) (by first | (simp; done) | fail) (fun d hd => ?_); subst hd; (try simp [hcb]))
  | fail)
 (refine EndOK.val (.inr rfl) ?_; simp [resD, oneOrTup, pureD, Tryd.results35])
 have h2 := idxP_any p l 0 (by omega)
 rw [Bool.eq_iff_iff]
 simpa using h2
theorem check1_fun (v : Var) (l : Let) : Fun Tryd.prog 36 (vagg v :: [U.row (lcells l) 0].map .u) (· = .u (.bool (decide (v.name = l.name)))) := by
 simp only [vagg, lcells, List.map_cons, List.map_nil]
 (refine Fun.of_body Tryd.func36 rfl (by simp) fun Γ hn => ?_); simp only [entry, List.zipIdx_cons, List.zipIdx_nil, List.map_cons, List.map_nil, Nat.zero_add, Tryd.ntmps36]
 repeat' (first
  | (refine H_cons ?_; simp)
  | (refine H_nil ?_; simp)
  | (refine V_sseq ?_; simp)
  | (refine V_ret ?_; simp only [RunK])
  | fail)
 (refine EndOK.val (.inr rfl) ?_; simp [resD, oneOrTup, pureD, Tryd.results36])
def checkP1 (b : By) (c : List UInt8) : Option (List UInt8 × Int) :=
 if (unitQ b.lets (namesS c) (expS b c)).2 = 0 then (if (unitQ b.lets (namesS c) (expS b c)).1 ≠ 3 then some (c, 14) else none) else some (c, (unitQ b.lets (namesS c) (expS b c)).2)
def checkPC (b : By) : List (List UInt8) → List UInt8 × Int
 | [] => ([], 0)
 | c :: r => match checkP1 b c with | some x => x | none => checkPC b r
def checkP (b : By) : List UInt8 × Int := if rightBy b = false then ([], 1) else match b.lets.find? (fun l => givenB l.name) with | some l => (l.name, 5) | none => checkPC b clausesL
theorem checkP_fun (b : By) : Fun Tryd.prog 21 [.u (.agg (byCells b))] (· = .tup [.u (.str (checkP b).1), .u (.int .i64 (checkP b).2)]) := by
 have h0 := rightBy_fun b
 have h1 := given_fun
 have hrb : rightBy b = true → b.lets.length ≤ 20 := fun h => by
  simp only [rightBy, Bool.and_eq_true, decide_eq_true_eq] at h
  exact h.1.1.2
 unfold checkP
 generalize rightBy b = rb at h0 hrb ⊢
 simp only [byCells] at h0
 cases rb
 ·(refine Fun.of_body Tryd.func21 rfl (by simp) fun Γ hn => ?_); simp only [entry, List.zipIdx_cons, List.zipIdx_nil, List.map_cons, List.map_nil, Nat.zero_add, Tryd.ntmps21]
  simp only [byCells]
  repeat' (first
  | (refine H_cons ?_; simp)
  | (refine H_nil ?_; simp)
  | (refine V_sseq ?_; simp)
  | (refine V_scond ?_; simp)
  | (refine V_ret ?_; simp only [RunK])
  | (refine CallP.fun_ (h0) (by first | rfl | fail) (by first | assumption | (simp; done) | fail) (by first | (simp; done) | (simp; rfl) | fail) (by first | (simp; done) | fail) (fun d hd => ?_); subst hd; (try simp))
  | fail)
  (refine EndOK.val (.inr rfl) ?_; simp [resD, oneOrTup, pureD, Tryd.results21])
 have h20 := hrb rfl
 (refine Fun.of_body Tryd.func21 rfl (by simp) fun Γ hn => ?_); simp only [entry, List.zipIdx_cons, List.zipIdx_nil, List.map_cons, List.map_nil, Nat.zero_add, Tryd.ntmps21]
 simp only [byCells]
 repeat' (first
  | (refine H_cons ?_; simp)
  | (refine H_nil ?_; simp)
  | (refine V_sseq ?_; simp)
  | (refine V_scond ?_; simp)
  | (refine V_sblock ?_; simp)
  | (refine V_skip ?_; simp only [RunK])
  | (refine CallP.fun_ (h0) (by first | rfl | fail) (by first | assumption | (simp; done) | fail) (by first | (simp; done) | (simp; rfl) | fail) (by first | (simp; done) | fail) (fun d hd => ?_); subst hd; (try simp))
  | (refine CallP.fun_ (h1) (by first | rfl | fail) (by first | assumption | (simp; done) | fail) (by first | (simp; done) | (simp; rfl) | fail) (by first | (simp; done) | fail) (fun d hd => ?_); subst hd; (try simp))
  | fail)
 refine V_loopF (α := { i : Nat // i ≤ b.lets.length ∧ ∀ l ∈ b.lets.take i, givenB l.name = false }) [1, 4, 5, 22, 23] (fun i => [(24, .u (.int .i64 i.1))]) (fun i => b.lets.length - i.1) ⟨0, by omega, by simp⟩ ?_ ?_
 ·exact (Wk.cut rfl (by simp [hn, St.lp]) (by simp [wkO, St.lp, getK_cons, getK, Ob.under, D.under, under_rowsD, under_entD]) (by simp [wkU, St.lp, keepE, getK_cons, getK, D.under]) (by simp [wkE, St.lp, keepE, getK_cons, getK] <;> (try (intros; simp_all; done)) <;> (try (intros; omega)) <;> (try grind)))
 rintro ⟨i, hi, hb⟩
 simp [St.lp, St.only, keepE, getK_cons, getK]
 rcases hx : b.lets[i]? with _ | l
 ·have hge : b.lets.length ≤ i := by simpa using hx
  obtain rfl : i = b.lets.length := by omega
  rw [List.take_length] at hb
  have hfn := find_no (p := fun l : Let => givenB l.name) hb
  repeat' (first
  | (refine H_cons ?_; simp [hx, zcells, chunks])
  | (refine H_nil ?_; simp [hx, zcells, chunks])
  | (refine V_sseq ?_; simp [hx, zcells, chunks])
  | (refine V_sblock ?_; simp [hx, zcells, chunks])
  | (refine V_exit ?_; simp [RunK])
  | fail)
  have step : ∀ {k : Nat} {c : List UInt8}, clausesL[k]? = some c → checkPC b clausesL = checkPC b (clausesL.drop k) → checkPC b clausesL = match checkP1 b c with | some x => x | none => checkPC b (clausesL.drop (k + 1)) := fun {k c} h1 h2 => by
   obtain ⟨hk, rfl⟩ := List.getElem?_eq_some_iff.1 h1
   rw [h2, List.drop_eq_getElem_cons hk, checkPC]
  refine V_loopF (α := { k : Nat // k ≤ 5 ∧ checkPC b clausesL = checkPC b (clausesL.drop k) }) [1, 4, 5, 50, 51] (fun k => [(52, .u (.int .i64 k.1))]) (fun k => 5 - k.1) ⟨0, by omega, by simp⟩ ?_ ?_
  ·exact (Wk.cut rfl (by simp [hn, St.lp]) (by simp [wkO, St.lp, getK_cons, getK, Ob.under, D.under, under_rowsD, under_entD]) (by simp [wkU, St.lp, keepE, getK_cons, getK, D.under]) (by simp [wkE, St.lp, keepE, getK_cons, getK] <;> (try (intros; simp_all; done)) <;> (try (intros; omega)) <;> (try grind)))
  rintro ⟨k, hk, hd⟩
  simp [St.lp, St.only, keepE, getK_cons, getK]
  have hk6 : k = 0 ∨ k = 1 ∨ k = 2 ∨ k = 3 ∨ k = 4 ∨ k = 5 := by omega
  rcases hk6 with rfl | rfl | rfl | rfl | rfl | rfl
  ·have st := step (k := 0) (c := [100, 117, 101]) rfl hd
   have e1 := unitOf_fun b.lets (namesS [100, 117, 101]) b.due
   have hlk := look_given [100, 117, 101]
   rw [if_pos (by simp [clausesL])] at hlk
   have cp : checkP1 b [100, 117, 101] = if (unitQ b.lets (namesS [100, 117, 101]) b.due).2 = 0 then (if (unitQ b.lets (namesS [100, 117, 101]) b.due).1 ≠ 3 then some ([100, 117, 101], 14) else none) else some ([100, 117, 101], (unitQ b.lets (namesS [100, 117, 101]) b.due).2) := rfl
   generalize unitQ b.lets (namesS [100, 117, 101]) b.due = r at e1 cp
   obtain ⟨u, er⟩ := r
   simp only [eagg, letsU] at e1
   simp only at cp
   have hcl : clausesL[0]? = some [100, 117, 101] := rfl
   repeat' (first
  | (refine H_cons ?_; simp [hlk, hcl, strs])
  | (refine HD_cons ?_; simp [hlk, hcl, strs])
  | (refine H_nil ?_; simp [hlk, hcl, strs])
  | (refine ⟨by omega, ?_⟩)
  | (refine V_sseq ?_; simp [hlk, hcl, strs])
  | (refine V_scond ?_; simp [hlk, hcl, strs])
  | (refine HD_nil ?_)
  | (refine hk _ ?_; clear hk k; simp only [RunK])
  | (refine V_drawV rfl (by kernel_rfl) (by kernel_rfl) fun k hk => ?_; simp [hlk, hcl, strs])
  | (refine V_sregion ?_; simp [hlk, hcl, strs])
  | (refine V_ret ?_; simp only [RunK])
  | (refine V_skip ?_; simp only [RunK])
  | (refine ⟨?_, by omega⟩)
  | (refine ⟨fun hc => ?_, fun hc => ?_⟩ <;> (try (exfalso; omega)))
  | (intro hc <;> (try (exfalso; omega)))
  | (refine CallV.fun_ (e1) (by first | rfl | fail) (by first | assumption | (simp; done) | fail) (by first | (simp [hlk, hcl, strs]; done) | (simp [hlk, hcl, strs]; rfl) | fail) (by first | (simp; done) | fail) ?_ <;> (try simp [hlk, hcl, strs]))
  | fail)
   all_goals first
    | (have g1 : er = 0 := (by first | assumption | fail); have g2 : u = 3 := (by first | assumption | fail); rw [cp, if_pos g1, if_neg (by simp [g2])] at st; refine LoopW.next ⟨0 + 1, by omega, st⟩ (by simp) ?_; exact (Wk.cut rfl (by simp [hn, St.lp]) (by simp [wkO, St.lp, getK_cons, getK, Ob.under, D.under, under_rowsD, under_entD]) (by simp [wkU, St.lp, keepE, getK_cons, getK, D.under]) (by simp [wkE, St.lp, keepE, getK_cons, getK] <;> (try (intros; simp_all; done)) <;> (try (intros; omega)) <;> (try grind))))
    | (have g1 : er = 0 := (by first | assumption | fail); have g2 : ¬ u = 3 := (by first | assumption | fail); rw [cp, if_pos g1, if_pos g2] at st; (refine EndOK.val (.inr rfl) ?_; simp [resD, oneOrTup, pureD, Tryd.results21]); rw [hfn, st]; simp; done)
    | (have g1 : ¬ er = 0 := (by first | assumption | fail); rw [cp, if_neg g1] at st; (refine EndOK.val (.inr rfl) ?_; simp [resD, oneOrTup, pureD, Tryd.results21]); rw [hfn, st]; simp; done)
  ·have st := step (k := 1) (c := [102, 105, 110, 101]) rfl hd
   have e1 := unitOf_fun b.lets (namesS [102, 105, 110, 101]) b.fine
   have hlk := look_given [102, 105, 110, 101]
   rw [if_pos (by simp [clausesL])] at hlk
   have cp : checkP1 b [102, 105, 110, 101] = if (unitQ b.lets (namesS [102, 105, 110, 101]) b.fine).2 = 0 then (if (unitQ b.lets (namesS [102, 105, 110, 101]) b.fine).1 ≠ 3 then some ([102, 105, 110, 101], 14) else none) else some ([102, 105, 110, 101], (unitQ b.lets (namesS [102, 105, 110, 101]) b.fine).2) := rfl
   generalize unitQ b.lets (namesS [102, 105, 110, 101]) b.fine = r at e1 cp
   obtain ⟨u, er⟩ := r
   simp only [eagg, letsU] at e1
   simp only at cp
   have hcl : clausesL[1]? = some [102, 105, 110, 101] := rfl
   repeat' (first
  | (refine H_cons ?_; simp [hlk, hcl, strs])
  | (refine HD_cons ?_; simp [hlk, hcl, strs])
  | (refine H_nil ?_; simp [hlk, hcl, strs])
  | (refine ⟨by omega, ?_⟩)
  | (refine V_sseq ?_; simp [hlk, hcl, strs])
  | (refine V_scond ?_; simp [hlk, hcl, strs])
  | (refine HD_nil ?_)
  | (refine hk _ ?_; clear hk k; simp only [RunK])
  | (refine V_drawV rfl (by kernel_rfl) (by kernel_rfl) fun k hk => ?_; simp [hlk, hcl, strs])
  | (refine V_sregion ?_; simp [hlk, hcl, strs])
  | (refine V_ret ?_; simp only [RunK])
  | (refine V_skip ?_; simp only [RunK])
  | (refine ⟨?_, by omega⟩)
  | (refine ⟨fun hc => ?_, fun hc => ?_⟩ <;> (try (exfalso; omega)))
  | (intro hc <;> (try (exfalso; omega)))
  | (refine CallV.fun_ (e1) (by first | rfl | fail) (by first | assumption | (simp; done) | fail) (by first | (simp [hlk, hcl, strs]; done) | (simp [hlk, hcl, strs]; rfl) | fail) (by first | (simp; done) | fail) ?_ <;> (try simp [hlk, hcl, strs]))
  | fail)
   all_goals first
    | (have g1 : er = 0 := (by first | assumption | fail); have g2 : u = 3 := (by first | assumption | fail); rw [cp, if_pos g1, if_neg (by simp [g2])] at st; refine LoopW.next ⟨1 + 1, by omega, st⟩ (by simp) ?_; exact (Wk.cut rfl (by simp [hn, St.lp]) (by simp [wkO, St.lp, getK_cons, getK, Ob.under, D.under, under_rowsD, under_entD]) (by simp [wkU, St.lp, keepE, getK_cons, getK, D.under]) (by simp [wkE, St.lp, keepE, getK_cons, getK] <;> (try (intros; simp_all; done)) <;> (try (intros; omega)) <;> (try grind))))
    | (have g1 : er = 0 := (by first | assumption | fail); have g2 : ¬ u = 3 := (by first | assumption | fail); rw [cp, if_pos g1, if_pos g2] at st; (refine EndOK.val (.inr rfl) ?_; simp [resD, oneOrTup, pureD, Tryd.results21]); rw [hfn, st]; simp; done)
    | (have g1 : ¬ er = 0 := (by first | assumption | fail); rw [cp, if_neg g1] at st; (refine EndOK.val (.inr rfl) ?_; simp [resD, oneOrTup, pureD, Tryd.results21]); rw [hfn, st]; simp; done)
  ·have st := step (k := 2) (c := [112, 97, 121]) rfl hd
   have e1 := unitOf_fun b.lets (namesS [112, 97, 121]) b.pay
   have hlk := look_given [112, 97, 121]
   rw [if_pos (by simp [clausesL])] at hlk
   have cp : checkP1 b [112, 97, 121] = if (unitQ b.lets (namesS [112, 97, 121]) b.pay).2 = 0 then (if (unitQ b.lets (namesS [112, 97, 121]) b.pay).1 ≠ 3 then some ([112, 97, 121], 14) else none) else some ([112, 97, 121], (unitQ b.lets (namesS [112, 97, 121]) b.pay).2) := rfl
   generalize unitQ b.lets (namesS [112, 97, 121]) b.pay = r at e1 cp
   obtain ⟨u, er⟩ := r
   simp only [eagg, letsU] at e1
   simp only at cp
   have hcl : clausesL[2]? = some [112, 97, 121] := rfl
   repeat' (first
  | (refine H_cons ?_; simp [hlk, hcl, strs])
  | (refine HD_cons ?_; simp [hlk, hcl, strs])
  | (refine H_nil ?_; simp [hlk, hcl, strs])
  | (refine ⟨by omega, ?_⟩)
  | (refine V_sseq ?_; simp [hlk, hcl, strs])
  | (refine V_scond ?_; simp [hlk, hcl, strs])
  | (refine HD_nil ?_)
  | (refine hk _ ?_; clear hk k; simp only [RunK])
  | (refine V_drawV rfl (by kernel_rfl) (by kernel_rfl) fun k hk => ?_; simp [hlk, hcl, strs])
  | (refine V_sregion ?_; simp [hlk, hcl, strs])
  | (refine V_ret ?_; simp only [RunK])
  | (refine V_skip ?_; simp only [RunK])
  | (refine ⟨?_, by omega⟩)
  | (refine ⟨fun hc => ?_, fun hc => ?_⟩ <;> (try (exfalso; omega)))
  | (intro hc <;> (try (exfalso; omega)))
  | (refine CallV.fun_ (e1) (by first | rfl | fail) (by first | assumption | (simp; done) | fail) (by first | (simp [hlk, hcl, strs]; done) | (simp [hlk, hcl, strs]; rfl) | fail) (by first | (simp; done) | fail) ?_ <;> (try simp [hlk, hcl, strs]))
  | fail)
   all_goals first
    | (have g1 : er = 0 := (by first | assumption | fail); have g2 : u = 3 := (by first | assumption | fail); rw [cp, if_pos g1, if_neg (by simp [g2])] at st; refine LoopW.next ⟨2 + 1, by omega, st⟩ (by simp) ?_; exact (Wk.cut rfl (by simp [hn, St.lp]) (by simp [wkO, St.lp, getK_cons, getK, Ob.under, D.under, under_rowsD, under_entD]) (by simp [wkU, St.lp, keepE, getK_cons, getK, D.under]) (by simp [wkE, St.lp, keepE, getK_cons, getK] <;> (try (intros; simp_all; done)) <;> (try (intros; omega)) <;> (try grind))))
    | (have g1 : er = 0 := (by first | assumption | fail); have g2 : ¬ u = 3 := (by first | assumption | fail); rw [cp, if_pos g1, if_pos g2] at st; (refine EndOK.val (.inr rfl) ?_; simp [resD, oneOrTup, pureD, Tryd.results21]); rw [hfn, st]; simp; done)
    | (have g1 : ¬ er = 0 := (by first | assumption | fail); rw [cp, if_neg g1] at st; (refine EndOK.val (.inr rfl) ?_; simp [resD, oneOrTup, pureD, Tryd.results21]); rw [hfn, st]; simp; done)
  ·have st := step (k := 3) (c := [99, 111, 118, 101, 114]) rfl hd
   have e1 := unitOf_fun b.lets (namesS [99, 111, 118, 101, 114]) b.cover
   have hlk := look_given [99, 111, 118, 101, 114]
   rw [if_pos (by simp [clausesL])] at hlk
   have cp : checkP1 b [99, 111, 118, 101, 114] = if (unitQ b.lets (namesS [99, 111, 118, 101, 114]) b.cover).2 = 0 then (if (unitQ b.lets (namesS [99, 111, 118, 101, 114]) b.cover).1 ≠ 3 then some ([99, 111, 118, 101, 114], 14) else none) else some ([99, 111, 118, 101, 114], (unitQ b.lets (namesS [99, 111, 118, 101, 114]) b.cover).2) := rfl
   generalize unitQ b.lets (namesS [99, 111, 118, 101, 114]) b.cover = r at e1 cp
   obtain ⟨u, er⟩ := r
   simp only [eagg, letsU] at e1
   simp only at cp
   have hcl : clausesL[3]? = some [99, 111, 118, 101, 114] := rfl
   repeat' (first
  | (refine H_cons ?_; simp [hlk, hcl, strs])
  | (refine HD_cons ?_; simp [hlk, hcl, strs])
  | (refine H_nil ?_; simp [hlk, hcl, strs])
  | (refine ⟨by omega, ?_⟩)
  | (refine V_sseq ?_; simp [hlk, hcl, strs])
  | (refine V_scond ?_; simp [hlk, hcl, strs])
  | (refine HD_nil ?_)
  | (refine hk _ ?_; clear hk k; simp only [RunK])
  | (refine V_drawV rfl (by kernel_rfl) (by kernel_rfl) fun k hk => ?_; simp [hlk, hcl, strs])
  | (refine V_sregion ?_; simp [hlk, hcl, strs])
  | (refine V_ret ?_; simp only [RunK])
  | (refine V_skip ?_; simp only [RunK])
  | (refine ⟨?_, by omega⟩)
  | (refine ⟨fun hc => ?_, fun hc => ?_⟩ <;> (try (exfalso; omega)))
  | (intro hc <;> (try (exfalso; omega)))
  | (refine CallV.fun_ (e1) (by first | rfl | fail) (by first | assumption | (simp; done) | fail) (by first | (simp [hlk, hcl, strs]; done) | (simp [hlk, hcl, strs]; rfl) | fail) (by first | (simp; done) | fail) ?_ <;> (try simp [hlk, hcl, strs]))
  | fail)
   all_goals first
    | (have g1 : er = 0 := (by first | assumption | fail); have g2 : u = 3 := (by first | assumption | fail); rw [cp, if_pos g1, if_neg (by simp [g2])] at st; refine LoopW.next ⟨3 + 1, by omega, st⟩ (by simp) ?_; exact (Wk.cut rfl (by simp [hn, St.lp]) (by simp [wkO, St.lp, getK_cons, getK, Ob.under, D.under, under_rowsD, under_entD]) (by simp [wkU, St.lp, keepE, getK_cons, getK, D.under]) (by simp [wkE, St.lp, keepE, getK_cons, getK] <;> (try (intros; simp_all; done)) <;> (try (intros; omega)) <;> (try grind))))
    | (have g1 : er = 0 := (by first | assumption | fail); have g2 : ¬ u = 3 := (by first | assumption | fail); rw [cp, if_pos g1, if_pos g2] at st; (refine EndOK.val (.inr rfl) ?_; simp [resD, oneOrTup, pureD, Tryd.results21]); rw [hfn, st]; simp; done)
    | (have g1 : ¬ er = 0 := (by first | assumption | fail); rw [cp, if_neg g1] at st; (refine EndOK.val (.inr rfl) ?_; simp [resD, oneOrTup, pureD, Tryd.results21]); rw [hfn, st]; simp; done)
  ·have st := step (k := 4) (c := [104, 111, 108, 100]) rfl hd
   have e1 := unitOf_fun b.lets (namesS [104, 111, 108, 100]) b.hold
   have hlk := look_given [104, 111, 108, 100]
   rw [if_pos (by simp [clausesL])] at hlk
   have cp : checkP1 b [104, 111, 108, 100] = if (unitQ b.lets (namesS [104, 111, 108, 100]) b.hold).2 = 0 then (if (unitQ b.lets (namesS [104, 111, 108, 100]) b.hold).1 ≠ 3 then some ([104, 111, 108, 100], 14) else none) else some ([104, 111, 108, 100], (unitQ b.lets (namesS [104, 111, 108, 100]) b.hold).2) := rfl
   generalize unitQ b.lets (namesS [104, 111, 108, 100]) b.hold = r at e1 cp
   obtain ⟨u, er⟩ := r
   simp only [eagg, letsU] at e1
   simp only at cp
   have hcl : clausesL[4]? = some [104, 111, 108, 100] := rfl
   repeat' (first
  | (refine H_cons ?_; simp [hlk, hcl, strs])
  | (refine HD_cons ?_; simp [hlk, hcl, strs])
  | (refine H_nil ?_; simp [hlk, hcl, strs])
  | (refine ⟨by omega, ?_⟩)
  | (refine V_sseq ?_; simp [hlk, hcl, strs])
  | (refine V_scond ?_; simp [hlk, hcl, strs])
  | (refine HD_nil ?_)
  | (refine hk _ ?_; clear hk k; simp only [RunK])
  | (refine V_drawV rfl (by kernel_rfl) (by kernel_rfl) fun k hk => ?_; simp [hlk, hcl, strs])
  | (refine V_sregion ?_; simp [hlk, hcl, strs])
  | (refine V_ret ?_; simp only [RunK])
  | (refine V_skip ?_; simp only [RunK])
  | (refine ⟨?_, by omega⟩)
  | (refine ⟨fun hc => ?_, fun hc => ?_⟩ <;> (try (exfalso; omega)))
  | (intro hc <;> (try (exfalso; omega)))
  | (refine CallV.fun_ (e1) (by first | rfl | fail) (by first | assumption | (simp; done) | fail) (by first | (simp [hlk, hcl, strs]; done) | (simp [hlk, hcl, strs]; rfl) | fail) (by first | (simp; done) | fail) ?_ <;> (try simp [hlk, hcl, strs]))
  | fail)
   all_goals first
    | (have g1 : er = 0 := (by first | assumption | fail); have g2 : u = 3 := (by first | assumption | fail); rw [cp, if_pos g1, if_neg (by simp [g2])] at st; refine LoopW.next ⟨4 + 1, by omega, st⟩ (by simp) ?_; exact (Wk.cut rfl (by simp [hn, St.lp]) (by simp [wkO, St.lp, getK_cons, getK, Ob.under, D.under, under_rowsD, under_entD]) (by simp [wkU, St.lp, keepE, getK_cons, getK, D.under]) (by simp [wkE, St.lp, keepE, getK_cons, getK] <;> (try (intros; simp_all; done)) <;> (try (intros; omega)) <;> (try grind))))
    | (have g1 : er = 0 := (by first | assumption | fail); have g2 : ¬ u = 3 := (by first | assumption | fail); rw [cp, if_pos g1, if_pos g2] at st; (refine EndOK.val (.inr rfl) ?_; simp [resD, oneOrTup, pureD, Tryd.results21]); rw [hfn, st]; simp; done)
    | (have g1 : ¬ er = 0 := (by first | assumption | fail); rw [cp, if_neg g1] at st; (refine EndOK.val (.inr rfl) ?_; simp [resD, oneOrTup, pureD, Tryd.results21]); rw [hfn, st]; simp; done)
  ·have hend : checkPC b clausesL = ([], 0) := by rw [hd]; rfl
   repeat' (first
  | (refine H_cons ?_; simp)
  | (refine H_nil ?_; simp)
  | (refine V_sseq ?_; simp)
  | (refine V_ret ?_; simp only [RunK])
  | (refine V_exit ?_; simp [RunK])
  | fail)
   (refine EndOK.val (.inr rfl) ?_; simp [resD, oneOrTup, pureD, Tryd.results21])
   rw [hfn, hend]
   simp
 ·have hlt : i < b.lets.length := (List.getElem?_eq_some_iff.1 hx).1
  have hfa := fun h => find_at (p := fun l : Let => givenB l.name) hb hx h
  repeat' (first
  | (refine H_cons ?_; simp [hx])
  | (refine H_nil ?_; simp [hx])
  | (refine V_sseq ?_; simp [hx])
  | (refine V_sblock ?_; simp [hx])
  | (refine V_skip ?_; simp only [RunK])
  | (refine ⟨?_, by omega⟩)
  | (intro hc <;> (try (exfalso; omega)))
  | fail)
  refine V_loopO (α := { q : List (Key × List U) × Option (Key × List U) // (∀ p ∈ q.1, ∃ c ∈ clausesL, p = entC c) ∧ ∀ c ∈ clausesL, entC c ∈ q.1 ∨ ((namesS c).any fun v => decide (v.name = l.name)) = false }) [1, 4, 5, 22, 23, 24, 7, 29] (fun q => [])
   (fun q => [(2, .it .s false givenM q.1.1 q.1.2), (1, .box [.u (.str l.name), .u (.int .i64 l.body.op), .u (.int .i64 l.body.n), .u (.int .i64 l.body.unit), .u (.str l.body.s), .u (.sl (l.body.args.map Exp.row))]), (0, .box ((byCells b).map .u))]) 3
   (fun q => q.1.1.length) ⟨(givenM, none), ?_, ?_⟩ ?_ ?_
  ·intro p hp
   obtain ⟨c, hc, rfl⟩ := List.mem_map.1 hp
   exact ⟨c, hc, rfl⟩
  ·intro c hc
   exact .inl (List.mem_map.2 ⟨c, hc, rfl⟩)
  ·exact (Wk.cut rfl (by simp [hn, St.lp]) (by simp [wkO, St.lp, getK_cons, getK, Ob.under, D.under, under_rowsD, under_entD, byCells]) (by simp [wkU, St.lp, keepE, getK_cons, getK, D.under, byCells]) (by simp [wkE, St.lp, keepE, getK_cons, getK, byCells] <;> (try (intros; simp_all; done)) <;> (try (intros; omega)) <;> (try grind)))
  rintro ⟨⟨left, cur⟩, hq1, hq2⟩
  simp only at hq1 hq2
  simp [St.lp, St.only, keepE, getK_cons, getK]
  simp only [byCells, List.map_cons, List.map_nil]
  repeat' (first
  | (refine H_cons ?_; simp [hx])
  | (refine H_nil ?_; simp [hx])
  | (refine ⟨by omega, ?_⟩)
  | (refine V_sseq ?_; simp [hx])
  | (refine V_sblock ?_; simp [hx])
  | (refine V_sregion ?_; simp [hx])
  | (refine V_skip ?_; simp only [RunK])
  | (refine V_exit ?_; simp [RunK])
  | (refine ⟨fun hc => ?_, fun hc => ?_⟩ <;> (try (exfalso; omega)))
  | (intro hc <;> (try (exfalso; omega)))
  | fail)
  ·have hno : givenB l.name = false := by
    unfold givenB
    rw [List.any_eq_false]
    intro c hc1
    rcases hq2 c hc1 with h | h
    ·(rw [hc] at h; cases h)
    ·simp only [h]; simp
   refine LoopW.next ⟨i + 1, by omega, take_succ_all hx hb hno⟩ (by simp; omega) ?_
   exact (Wk.cut rfl (by simp [hn, St.lp]) (by simp [wkO, St.lp, getK_cons, getK, Ob.under, D.under, under_rowsD, under_entD]) (by simp [wkU, St.lp, keepE, getK_cons, getK, D.under]) (by simp [wkE, St.lp, keepE, getK_cons, getK] <;> (try (intros; simp_all; done)) <;> (try (intros; omega)) <;> (try grind)))
  ·rename_i l1 pk pv l2
   have hl : left = l1 ++ (pk, pv) :: l2 := hc
   obtain ⟨c, hc1, hpc⟩ := hq1 (pk, pv) (by rw [hl]; simp)
   simp only [entC, Prod.mk.injEq] at hpc
   obtain ⟨rfl, rfl⟩ := hpc
   have hvn := containsV_fun (namesS c) 36 [U.row (lcells l) 0] _ (fun v _ => check1_fun v l) (by simp) (fun _ => rfl) (fun _ => rfl)
   simp only [lcells, List.map_cons, List.map_nil] at hvn
   cases hany : ((namesS c).any fun v => decide (v.name = l.name))
   all_goals
    rw [hany] at hvn
    try simp only [entC]
    try simp
    repeat' (first
  | (refine H_cons ?_; simp [hx])
  | (refine H_nil ?_; simp [hx])
  | (refine V_sseq ?_; simp [hx])
  | (refine V_scond ?_; simp [hx])
  | (refine V_ret ?_; simp only [RunK])
  | (refine V_skip ?_; simp only [RunK])
  | (refine CallP.fun_ (hvn) (by first | rfl | fail) (by first | assumption | (simp; done) | fail) (by first | (simp [hx]; done) | (simp [hx]; rfl) | fail) (by first | (simp; done) | fail) (fun d hd => ?_); subst hd; (try simp [hx]))
  | fail)
   ·refine LoopW.next ⟨(l1 ++ l2, some (entC c)), ?_, ?_⟩ ?_ ?_
    ·intro p hp
     exact hq1 p (by rw [hl]; simp at hp ⊢; rcases hp with h | h <;> simp [h])
    ·intro c' hc'
     rcases hq2 c' hc' with h | h
     ·rw [hl] at h
      simp only [List.mem_append, List.mem_cons] at h
      rcases h with h | h | h
      ·exact .inl (List.mem_append.2 (.inl h))
      ·have : c' = c := by simp [entC] at h; exact h.1
       subst this
       exact .inr hany
      ·exact .inl (List.mem_append.2 (.inr h))
     ·exact .inr h
    ·first | (simp [hl]; done) | (simp [hl]; omega)
    ·exact (Wk.cut rfl (by simp [hn, St.lp]) (by simp [wkO, St.lp, getK_cons, getK, Ob.under, D.under, under_rowsD, under_entD, entC]) (by simp [wkU, St.lp, keepE, getK_cons, getK, D.under, entC]) (by simp [wkE, St.lp, keepE, getK_cons, getK, entC] <;> (try (intros; simp_all; done)) <;> (try (intros; omega)) <;> (try grind)))
   ·(refine EndOK.val (.inr rfl) ?_; simp [resD, oneOrTup, pureD, Tryd.results21])
    have hyes : givenB l.name = true := by
      unfold givenB
      rw [List.any_eq_true]
      exact ⟨c, hc1, hany⟩
    rw [hfa hyes]
    simp
end Go.Proofs.YtfcopibncpkdoaaDoor
namespace Go.Proofs.YtfcopibncpkdoaaDoor
open Go Go.VL
def sDue : List UInt8 := [100, 117, 101]
def sFine : List UInt8 := [102, 105, 110, 101]
def sPay : List UInt8 := [112, 97, 121]
def sCover : List UInt8 := [99, 111, 118, 101, 114]
def sHold : List UInt8 := [104, 111, 108, 100]
def clauseE (b : By) (c : List UInt8) : Option Exp :=
 if c = sDue then some b.due else if c = sFine then some b.fine else if c = sPay then some b.pay else if c = sCover then some b.cover else if c = sHold then some b.hold else none
/-- What Clause returns. -/
def clauseP (b : By) (c : List UInt8) (vars : List Var) : Int × Int := match clauseE b c with
 | some e => if rightBy b = true then valueP b.lets vars e else (0, 1)
 | none => (0, 1)
attribute [local simp] HS hcons hstep evPure opd uOf putOK St.put St.at getK binD binI binS binB nilD aggD eqUs cmpK lookD lookR rangeD Go.VL.nextD entryD keyD valU keyU lookK mkV entD_nil lookK_entD updK_entD1 updK_entD3 allUE allUE_entD makeMapD mapUpdD mapEff updK valM Key.kk shiftI arith unD convD pickD loadD cellsAt fieldAddrD fieldD indexAddrD indexD sliceD cutD lenD minmaxD nilCheckD buildD fillD cellsD isOne ones setAll mkAgg allU allocD boxD storeD St.add buildSliceD appendD rowsOf makeD setOb getK_setOb getK_del getK_cons stripL strip guardTmp entry chunks zcells valD argsV argsW argW argU1 argU0 argsU0 argsU1 calleeOf scalarD scalarU delAll effD St.effS RK_seq RK_seq_ret RK_seq_exit RK_blk RK_blk_ret RK_blk_exit RK_loop RK_loop_ret RK_loop_exit RK_done vs_seq vs_block vs_cond vs_region vs_loop vs_draw applyW mkD rdIds lentIds callOf calleeOf freeOp D.ids Op.operands Call.operands isEffOp makeIfD typeAssertD conc concs conc1 uOfV panicD IntKind.bits allU2 allU2_append List.take_of_length_le List.range_succ
attribute [local irreducible] V G H HD HD2 HD4 HD4h RetX RunK Eff CallP CallV EndOK Fun Ret FinOK LoopI LoopW EndW
theorem clause_fun (b : By) (c : List UInt8) (vars : List Var) : Fun Tryd.prog 19 [.u (.agg (byCells b)), .u (.str c), .u (varsU vars)] (· = .tup [.u (.int .i64 (clauseP b c vars).1), .u (.int .i64 (clauseP b c vars).2)]) := by
 have h1 := rightBy_fun b
 generalize hW : clauseP b c vars = W
 unfold clauseP at hW
 cases hE : clauseE b c with
 | none =>
  rw [hE] at hW
  unfold clauseE at hE
  by_cases c1 : c = sDue
  ·rw [if_pos c1] at hE; cases hE
  by_cases c2 : c = sFine
  ·rw [if_neg c1, if_pos c2] at hE; cases hE
  by_cases c3 : c = sPay
  ·rw [if_neg c1, if_neg c2, if_pos c3] at hE; cases hE
  by_cases c4 : c = sCover
  ·rw [if_neg c1, if_neg c2, if_neg c3, if_pos c4] at hE; cases hE
  by_cases c5 : c = sHold
  ·rw [if_neg c1, if_neg c2, if_neg c3, if_neg c4, if_pos c5] at hE; cases hE
  clear hE
  have d1 := Ne.symm c1
  have d2 := Ne.symm c2
  have d3 := Ne.symm c3
  have d4 := Ne.symm c4
  have d5 := Ne.symm c5
  subst hW
  unfold sDue sFine sPay sCover sHold at *
  unfold byCells varsU
  (refine Fun.of_bodyW Tryd.func19 rfl (by simp) fun Γ hn => ?_); simp only [entry, List.zipIdx_cons, List.zipIdx_nil, List.map_cons, List.map_nil, Nat.zero_add, Tryd.ntmps19]
  repeat' (first
  | (refine H_cons ?_; simp [c1, c2, c3, c4, c5, d1, d2, d3, d4, d5])
  | (refine H_nil ?_; simp [c1, c2, c3, c4, c5, d1, d2, d3, d4, d5])
  | (refine V_sseq ?_; simp [c1, c2, c3, c4, c5, d1, d2, d3, d4, d5])
  | (refine V_scond ?_; simp [c1, c2, c3, c4, c5, d1, d2, d3, d4, d5])
  | (refine V_ret ?_; simp only [RunK])
  | fail)
  refine EndW.here ?_
  (refine EndOK.val (.inr rfl) ?_; simp [resD, oneOrTup, pureD, Tryd.results19])
 | some e =>
  rw [hE] at hW
  simp only at hW
  have hc : (c = sDue ∧ e = b.due) ∨ (c = sFine ∧ e = b.fine) ∨ (c = sPay ∧ e = b.pay) ∨ (c = sCover ∧ e = b.cover) ∨ (c = sHold ∧ e = b.hold) := by
   unfold clauseE at hE
   repeat' split at hE
   all_goals first | (cases hE; done) | (cases hE; simp_all; done)
  clear hE
  have h2 := value_fun b.lets vars e
  cases hr : rightBy b
  ·rw [hr] at h1
   rw [hr, if_neg (by simp)] at hW
   subst hW
   clear h2
   unfold sDue sFine sPay sCover sHold at *
   unfold byCells varsU
   unfold byCells at h1
   rcases hc with ⟨rfl, rfl⟩ | ⟨rfl, rfl⟩ | ⟨rfl, rfl⟩ | ⟨rfl, rfl⟩ | ⟨rfl, rfl⟩
   all_goals
    (refine Fun.of_bodyW Tryd.func19 rfl (by simp) fun Γ hn => ?_); simp only [entry, List.zipIdx_cons, List.zipIdx_nil, List.map_cons, List.map_nil, Nat.zero_add, Tryd.ntmps19]
    repeat' (first
  | (refine H_cons ?_; simp)
  | (refine H_nil ?_; simp)
  | (refine V_sseq ?_; simp)
  | (refine V_scond ?_; simp)
  | (refine V_ret ?_; simp only [RunK])
  | (refine CallP.fun_ (h1) (by first | rfl | fail) (by first | assumption | (simp; done) | fail) (by first | (simp; done) | (simp; rfl) | fail) (by first | (simp; done) | fail) (fun d hd => ?_); subst hd; (try simp))
  | fail)
    refine EndW.here ?_
    (refine EndOK.val (.inr rfl) ?_; simp [resD, oneOrTup, pureD, Tryd.results19])
  ·rw [hr] at h1
   rw [hr, if_pos rfl] at hW
   rw [hW] at h2
   clear hW
   unfold sDue sFine sPay sCover sHold at *
   unfold byCells varsU
   unfold byCells at h1
   unfold letsU varsU eagg at h2
   rcases hc with ⟨rfl, rfl⟩ | ⟨rfl, rfl⟩ | ⟨rfl, rfl⟩ | ⟨rfl, rfl⟩ | ⟨rfl, rfl⟩
   all_goals
    (refine Fun.of_bodyW Tryd.func19 rfl (by simp) fun Γ hn => ?_); simp only [entry, List.zipIdx_cons, List.zipIdx_nil, List.map_cons, List.map_nil, Nat.zero_add, Tryd.ntmps19]
    repeat' (first
  | (refine H_cons ?_; simp)
  | (refine H_nil ?_; simp)
  | (refine V_sseq ?_; simp)
  | (refine V_scond ?_; simp)
  | (refine V_ret ?_; simp only [RunK])
  | (refine V_skip ?_; simp only [RunK])
  | (refine CallP.fun_ (h1) (by first | rfl | fail) (by first | assumption | (simp; done) | fail) (by first | (simp; done) | (simp; rfl) | fail) (by first | (simp; done) | fail) (fun d hd => ?_); subst hd; (try simp))
  | (refine CallP.fun_ (h2) (by first | rfl | fail) (by first | assumption | (simp; done) | fail) (by first | (simp; done) | (simp; rfl) | fail) (by first | (simp; done) | fail) (fun d hd => ?_); subst hd; (try simp))
  | fail)
    refine EndW.here ?_
    (refine EndOK.val (.inr rfl) ?_; simp [resD, oneOrTup, pureD, Tryd.results19])
end Go.Proofs.YtfcopibncpkdoaaDoor
namespace Go.Proofs.YtfcopibncpkdoaaDoor
open Go Go.VL
theorem unitsS_ne {g m} : ∀ {l : List Exp} {b : Int}, unitsS g m l = .error b → b ≠ 0
 | [], b, h => by rw [unitsS] at h; cases h
 | e :: l, b, h => by
  rw [unitsS] at h
  split at h
  ·rename_i hne
   cases h; exact hne
  ·split at h
   ·rename_i h1
    cases h; exact unitsS_ne h1
   ·cases h
theorem unitsS_inv {g m} : ∀ {l : List Exp} {us : List Int}, unitsS g m l = .ok us → ∀ x ∈ l, (unitS g m x).2 = 0
 | [], us, h => by simp
 | e :: l, us, h => by
  rw [unitsS] at h
  split at h
  ·cases h
  ·rename_i h0
   split at h
   ·cases h
   ·rename_i h1
    intro x hx
    rcases List.mem_cons.1 hx with rfl | hx
    ·simpa using h0
    ·exact unitsS_inv h1 x hx
def OkE (r : Except Int Int) : Prop := ∀ er, r = .error er → er = 3 ∨ er = 15
theorem OkE.ok (v : Int) : OkE (.ok v) := fun er h => by cases h
theorem OkE.bind {f : TM} {g : Int → TM} (hp : f.Pure) (h1 : OkE (f []).1) (h2 : ∀ a, OkE (g a []).1) : OkE (f.bind g []).1 := by
 rw [TM.Pure.bind1 hp]
 cases h : (f []).1 with
 | ok v => exact h2 v
 | error e => rw [h] at h1; exact h1
theorem valT_ok3 {nm : List UInt8 → TM} {sh : Exp → Bool} {g : List UInt8 → Option Int} {m : List UInt8 → Option (Int × Int)} (hp : ∀ s, (nm s).Pure) (hn : ∀ s, (g s ≠ none ∨ ∃ u, m s = some (u, 0)) → OkE (nm s []).1) :
  ∀ (d : Nat) (e : Exp), rightB d e = true → (unitS g m e).2 = 0 → OkE (valT nm sh e []).1
 | 0, e, h, _ => by simp [rightB] at h
 | d + 1, e, h, hu => by
  obtain ⟨hlen, ho0, ho14, hsub⟩ := right_args h
  rw [valT_eq]
  rw [unitS_eq] at hu
  by_cases c0 : e.op = 0
  ·rw [if_pos c0]
   exact fun er h => .inl (keptX_err h)
  by_cases c1 : e.op = 1
  ·rw [if_neg c0, if_pos c1] at hu ⊢
   refine hn _ ?_
   cases hg : g e.s with
   | some u => exact .inl (by simp)
   | none =>
    rw [hg] at hu
    simp only at hu
    cases hm : m e.s with
    | none => rw [hm] at hu; simp at hu
    | some r => rw [hm] at hu; exact .inr ⟨r.1, by rw [← hu]⟩
  rw [if_neg c0, if_neg c1] at hu ⊢
  have hA : ∀ x ∈ e.args, OkE (valT nm sh x []).1 := fun x hx => by
   cases hus : unitsS g m e.args with
   | error b => rw [hus] at hu; exact absurd hu (unitsS_ne hus)
   | ok us => exact valT_ok3 hp hn d x (hsub c0 c1 x hx) (unitsS_inv hus x hx)
  have hN : ∀ i, i < e.args.length → OkE (valN nm sh e.args i []).1 := fun i hi => by
   rw [valN_at (List.getElem?_eq_getElem hi)]
   exact hA _ (List.getElem_mem hi)
  have hP : ∀ i, (valN nm sh e.args i).Pure := fun i => valN_pure hp e.args i
  by_cases c2 : e.op = 10
  ·rw [c2] at hlen
   have hl : e.args.length = 2 := by have h1 : (e.args.length : Int) = 2 := (by simpa [operandsI] using hlen); omega
   rw [if_pos c2]
   refine OkE.bind (hP 0) (hN 0 (by omega)) fun a => ?_
   split
   ·exact .ok _
   ·exact OkE.bind (hP 1) (hN 1 (by omega)) fun b => .ok _
  by_cases c3 : e.op = 11
  ·rw [c3] at hlen
   have hl : e.args.length = 2 := by have h1 : (e.args.length : Int) = 2 := (by simpa [operandsI] using hlen); omega
   rw [if_neg c2, if_pos c3]
   refine OkE.bind (hP 0) (hN 0 (by omega)) fun a => ?_
   split
   ·exact .ok _
   ·exact OkE.bind (hP 1) (hN 1 (by omega)) fun b => .ok _
  by_cases c4 : e.op = 12
  ·rw [c4] at hlen
   have hl : e.args.length = 1 := by have h1 : (e.args.length : Int) = 1 := (by simpa [operandsI] using hlen); omega
   rw [if_neg c2, if_neg c3, if_pos c4]
   exact OkE.bind (hP 0) (hN 0 (by omega)) fun a => .ok _
  by_cases c5 : e.op = 13
  ·rw [c5] at hlen
   have hl : e.args.length = 3 := by have h1 : (e.args.length : Int) = 3 := (by simpa [operandsI] using hlen); omega
   rw [if_neg c2, if_neg c3, if_neg c4, if_pos c5]
   refine OkE.bind (hP 0) (hN 0 (by omega)) fun a => ?_
   split
   ·exact hN 1 (by omega)
   ·exact hN 2 (by omega)
  have hl : e.args.length = 2 := by
   have h1 : operandsI e.op = 2 := by
    unfold operandsI
    repeat' split
    all_goals omega
   omega
  rw [if_neg c2, if_neg c3, if_neg c4, if_neg c5]
  refine OkE.bind (hP 0) (hN 0 (by omega)) fun a => ?_
  exact OkE.bind (hP 1) (hN 1 (by omega)) fun b => fun er h => binX_err h
theorem nmP_ok3 {lets : List Let} {gu : GM} {G : List UInt8 → Option Int} (hr : ∀ l ∈ lets, rightB 12 l.body = true) (hg : ∀ s, gF gu s ≠ none → G s ≠ none) :
  ∀ n, n ≤ lets.length → ∀ s, (gF gu s ≠ none ∨ ∃ u, mF (mOf gu (lets.take n)) s = some (u, 0)) → OkE (nmP lets G n s []).1
 | 0, _, s, h => by
  rcases h with h | ⟨u, h⟩
  ·rw [nmP_0]
   cases hG : G s with
   | none => exact absurd hG (hg s h)
   | some v => exact .ok _
  ·simp [mF, mOf, asc] at h
 | n + 1, hnl, s, h => by
  have ih := nmP_ok3 hr hg n (by omega)
  rw [nmP]
  cases hG : G s with
  | some v => exact .ok _
  | none =>
   have hgs : gF gu s = none := Classical.byContradiction fun hc => hg s hc hG
   obtain ⟨u, h⟩ : ∃ u, mF (mOf gu (lets.take (n + 1))) s = some (u, 0) := by
    rcases h with h | h
    ·exact absurd hgs h
    ·exact h
   obtain ⟨l, hx⟩ : ∃ l, lets[n]? = some l := ⟨_, List.getElem?_eq_getElem (by omega)⟩
   rw [hx]
   simp only
   have hm : mOf gu (lets.take (n + 1)) = ascPut (mOf gu (lets.take n)) l.name ((unitS (gF gu) (mF (mOf gu (lets.take n))) l.body).1, (unitS (gF gu) (mF (mOf gu (lets.take n))) l.body).2, shareS (sF (mOf gu (lets.take n))) l.body) := by
    unfold mOf
    exact foldl_succ _ _ hx
   rw [hm] at h
   simp only [mF, asc_put] at h
   by_cases hs : l.name = s
   ·rw [if_pos hs.symm] at h
    simp only [Option.map_some, Option.some.injEq, Prod.mk.injEq] at h
    rw [if_pos hs]
    exact valT_ok3 (fun s => nmP_pure n s) ih 12 l.body (hr l (List.mem_of_getElem? hx)) h.2
   ·rw [if_neg (Ne.symm hs)] at h
    rw [if_neg hs]
    exact ih s (.inr ⟨u, h⟩)
abbrev stepV (f : Var → Int) (g : GM) (v : Var) : GM := if asc g v.name = none then ascPut g v.name (f v) else g
theorem stepV_at (f : Var → Int) (g : GM) (v : Var) (s : List UInt8) : asc (stepV f g v) s ≠ none ↔ asc g s ≠ none ∨ v.name = s := by
 unfold stepV
 split
 ·rename_i h
  rw [asc_put]
  by_cases hs : s = v.name
  ·simp [hs]
  ·rw [if_neg hs]; simp [Ne.symm hs]
 ·rename_i h
  exact ⟨.inl, fun h1 => h1.elim id fun e => e ▸ h⟩
theorem foldV_at (f : Var → Int) (s : List UInt8) : ∀ (l : List Var) (g : GM), asc (l.foldl (stepV f) g) s ≠ none ↔ asc g s ≠ none ∨ s ∈ l.map (·.name)
 | [], g => by simp
 | v :: l, g => by
  rw [List.foldl_cons, foldV_at f s l, stepV_at, List.map_cons, List.mem_cons]
  constructor
  ·rintro ((h | h) | h)
   ·exact .inl h
   ·exact .inr (.inl h.symm)
   ·exact .inr (.inr h)
  ·rintro (h | h | h)
   ·exact .inl (.inl h)
   ·exact .inl (.inr h.symm)
   ·exact .inr h
theorem foldV_same (f : Var → Int) : ∀ (l : List Var) (g : GM), (∀ v ∈ l, asc g v.name ≠ none) → l.foldl (stepV f) g = g
 | [], g, _ => rfl
 | v :: l, g, h => by
  rw [List.foldl_cons, show stepV f g v = g from if_neg (h v (by simp))]
  exact foldV_same f l g fun x hx => h x (by simp [hx])
theorem gV_twice (vars : List Var) : gV (vars ++ vars) = gV vars := by
 show (vars ++ vars).foldl (stepV Var.n) [] = vars.foldl (stepV Var.n) []
 rw [List.foldl_append]
 exact foldV_same _ _ _ fun v hv => (foldV_at _ _ _ _).2 (.inr (List.mem_map.2 ⟨v, hv, rfl⟩))
theorem valueP_twice (lets : List Let) (vars : List Var) (e : Exp) : valueP lets (vars ++ vars) e = valueP lets vars e := by
 unfold valueP
 rw [gV_twice, List.all_append, Bool.and_self]
theorem clauseP_twice (b : By) (c : List UInt8) (vars : List Var) : clauseP b c (vars ++ vars) = clauseP b c vars := by
 unfold clauseP
 split
 ·rw [valueP_twice]
 ·rfl
theorem checkPC_ok {b : By} : ∀ {l : List (List UInt8)}, (checkPC b l).2 = 0 → ∀ c ∈ l, (unitQ b.lets (namesS c) (expS b c)).2 = 0
 | [], _ => by simp
 | c :: l, h => by
  rw [checkPC] at h
  unfold checkP1 at h
  intro x hx
  by_cases h0 : (unitQ b.lets (namesS c) (expS b c)).2 = 0
  ·rw [if_pos h0] at h
   by_cases h3 : (unitQ b.lets (namesS c) (expS b c)).1 ≠ 3
   ·rw [if_pos h3] at h
    simp at h
   ·rw [if_neg h3] at h
    rcases List.mem_cons.1 hx with rfl | hx
    ·exact h0
    ·exact checkPC_ok h x hx
  ·rw [if_neg h0] at h
   exact absurd h h0
theorem checkP_ok {b : By} (h : (checkP b).2 = 0) : rightBy b = true ∧ ∀ c ∈ clausesL, (unitQ b.lets (namesS c) (expS b c)).2 = 0 := by
 unfold checkP at h
 by_cases hr : rightBy b = false
 ·rw [if_pos hr] at h
  simp at h
 ·rw [if_neg hr] at h
  refine ⟨by simpa using hr, ?_⟩
  split at h
  ·simp at h
  ·exact checkPC_ok h
/-- A clause of accepted bylaws has a value, or one of two errors. -/
theorem typed_value {b : By} {c : List UInt8} {vars : List Var} (h : (checkP b).2 = 0) (hc : c ∈ clausesL) (hv : vars.map (·.name) = (namesS c).map (·.name)) (hin : vars.all inCB = true) :
  ((clauseP b c vars).2 = 0 ∨ (clauseP b c vars).1 = 0 ∧ ((clauseP b c vars).2 = 15 ∨ (clauseP b c vars).2 = 3)) ∧ -1099511627776 ≤ (clauseP b c vars).1 ∧ (clauseP b c vars).1 ≤ 1099511627776 := by
 obtain ⟨hr, hu⟩ := checkP_ok h
 replace hu := hu c hc
 have hE : clauseE b c = some (expS b c) := by
  simp only [clausesL, List.mem_cons, List.not_mem_nil, or_false] at hc
  rcases hc with rfl | rfl | rfl | rfl | rfl <;> rfl
 unfold clauseP
 rw [hE]
 simp only
 rw [if_pos hr]
 generalize expS b c = e at hu
 unfold unitQ at hu
 by_cases ho : okJ b.lets (namesS c) e = true
 ·rw [if_pos ho] at hu
  unfold okJ at ho
  rw [Bool.and_eq_true] at ho
  obtain ⟨_, he, hl⟩ := rights_out ho.1
  rw [valueP_eq, if_pos ⟨ho.1, hin⟩]
  have hk : ∀ s, gF (gOf (namesS c)) s ≠ none → gF (gV vars) s ≠ none := fun s h => by
   have h1 := (foldV_at Var.unit s (namesS c) []).1 h
   exact (foldV_at Var.n s vars []).2 (by rw [hv]; exact h1)
  have h3 : OkE (valX b.lets (gF (gV vars)) b.lets.length e) := valT_ok3 (fun s => nmP_pure _ s) (fun s hs => nmP_ok3 (gu := gOf (namesS c)) hl hk _ (Nat.le_refl _) s (by rw [List.take_length]; exact hs)) 12 e he hu
  have h4 := valL_ok hl (gV_inC hin) b.lets.length 12 e he (tab0 b.lets) (tab0_ok _)
  rw [(valL_valX hl (gV_inC hin) b.lets.length 12 e he (tab0 b.lets) (tab0_ok _) (tab0_v _ _)).1] at h4
  cases hx : valX b.lets (gF (gV vars)) b.lets.length e with
  | ok v =>
   have h5 := h4.2.1 v hx
   unfold inC at h5
   exact ⟨.inl rfl, h5⟩
  | error er =>
   refine ⟨.inr ⟨rfl, ?_⟩, (by decide : (-1099511627776 : Int) ≤ 0), (by decide : (0 : Int) ≤ 1099511627776)⟩
   rcases h3 er hx with h | h
   ·exact .inr h
   ·exact .inl h
 ·rw [if_neg ho] at hu
  simp at hu
/-- The numbers of the given names. -/
def clipC (n : Int) : Int := min (max n (-1099511627776)) 1099511627776
def putN : List Var → List Int → List Var
 | v :: vs, n :: ns => ⟨v.name, v.unit, clipC n⟩ :: putN vs ns
 | vs, _ => vs
theorem putN_nil (vs : List Var) : putN vs [] = vs := by cases vs <;> simp [putN]
theorem putN_names : ∀ (vs : List Var) (ns : List Int), (putN vs ns).map (·.name) = vs.map (·.name)
 | [], ns => by cases ns <;> rfl
 | v :: vs, [] => rfl
 | v :: vs, n :: ns => by rw [putN, List.map_cons, List.map_cons, putN_names vs ns]
theorem putN_in : ∀ (vs : List Var) (ns : List Int), vs.all inCB = true → (putN vs ns).all inCB = true
 | [], ns, _ => by cases ns <;> rfl
 | v :: vs, [], h => h
 | v :: vs, n :: ns, h => by
  rw [List.all_cons, Bool.and_eq_true] at h
  rw [putN, List.all_cons, Bool.and_eq_true]
  refine ⟨?_, putN_in vs ns h.2⟩
  have h1 : clipC n ≤ 1099511627776 ∧ -1099511627776 ≤ clipC n := by unfold clipC; omega
  simp [inCB, h1.1, h1.2]
end Go.Proofs.YtfcopibncpkdoaaDoor
namespace Go.Proofs.YtfcopibncpkdoaaDoor
open Go Go.VL
def rowsV (l : List Var) : List (List U) := l.map fun v => [.str v.name, .int .i64 v.unit, .int .i64 v.n]
/-- The numbers under which the slices of the given names lie. -/
def jOf (c : List UInt8) : Nat := if c = [100, 117, 101] then 5 else if c = [102, 105, 110, 101] then 9 else if c = [112, 97, 121] then 10 else if c = [99, 111, 118, 101, 114] then 11 else 12
abbrev gD : D := .tup [.vec 6 5, .mp 7]
abbrev gMap : Ob := .map .s false [(Key.s [100, 117, 101], [D.vec 5 4]), (Key.s [102, 105, 110, 101], [D.vec 9 5]), (Key.s [112, 97, 121], [D.vec 10 4]), (Key.s [99, 111, 118, 101, 114], [D.vec 11 4]), (Key.s [104, 111, 108, 100], [D.vec 12 2])]
abbrev gObs : List (Nat × Ob) := [(6, .vec 9 1 [[.u (.str [100, 117, 101])], [.u (.str [102, 105, 110, 101])], [.u (.str [112, 97, 121])], [.u (.str [99, 111, 118, 101, 114])], [.u (.str [104, 111, 108, 100])]]), (7, gMap), (5, .vec 33 3 (rowsD (rowsV (namesS [100, 117, 101])))), (9, .vec 33 3 (rowsD (rowsV (namesS [102, 105, 110, 101])))), (10, .vec 33 3 (rowsD (rowsV (namesS [112, 97, 121])))), (11, .vec 33 3 (rowsD (rowsV (namesS [99, 111, 118, 101, 114])))), (12, .vec 33 3 (rowsD (rowsV (namesS [104, 111, 108, 100]))))]
attribute [local simp] hcons hstep evPure opd uOf putOK St.put St.at getK binD binI binS binB nilD aggD eqUs cmpK lookD lookR rangeD Go.VL.nextD entryD keyD valU keyU lookK mkV entD_nil lookK_entD updK_entD1 updK_entD3 allUE allUE_entD makeMapD mapUpdD mapEff updK valM Key.kk shiftI arith unD convD pickD loadD cellsAt fieldAddrD fieldD indexAddrD indexD sliceD cutD lenD minmaxD nilCheckD buildD fillD cellsD isOne ones setAll mkAgg allU allocD boxD storeD St.add buildSliceD appendD rowsOf makeD setOb getK_setOb getK_del getK_cons stripL strip guardTmp entry chunks zcells valD argsV argsW argW argU1 argU0 argsU0 argsU1 calleeOf scalarD scalarU delAll effD St.effS RK_seq RK_seq_ret RK_seq_exit RK_blk RK_blk_ret RK_blk_exit RK_loop RK_loop_ret RK_loop_exit RK_done vs_seq vs_block vs_cond vs_region vs_loop vs_draw applyW mkD rdIds lentIds callOf calleeOf freeOp D.ids Op.operands Call.operands isEffOp makeIfD typeAssertD conc concs conc1 uOfV panicD IntKind.bits allU2 allU2_append List.take_of_length_le List.range_succ
attribute [local irreducible] V G H HD HD2 RunK Eff CallP CallV EndOK Fun Ret FinOK LoopI LoopW EndW
theorem given_ret : Ret Tryd.prog 34 [] [] 1 (fun d o n => d = gD ∧ o = gObs ∧ n = 13) := by
 (refine Ret.of_bodyW Tryd.func34 rfl (by simp) fun Γ hn => ?_); simp only [entry, List.zipIdx_cons, List.zipIdx_nil, List.map_cons, List.map_nil, Nat.zero_add, Tryd.ntmps34]
 repeat' (first
  | (refine H_cons ?_; simp [zcells, chunks])
  | (refine H_nil ?_; simp [zcells, chunks])
  | (refine V_sseq ?_; simp [zcells, chunks])
  | (refine V_drawN rfl (by kernel_rfl) (by kernel_rfl) (by simp [hn]) fun C k hC hk => ?_; simp [zcells, chunks])
  | (refine HD3_val rfl ?_; simp [zcells, chunks])
  | (refine HD3_put ?_; simp [zcells, chunks])
  | (refine HD3_chg rfl rfl ?_; simp [zcells, chunks])
  | (refine HD3_nil (hC _ _ (by kernel_rfl) (by kernel_rfl)) (hk _ ?_); clear hC hk C k; simp only [RunK]; simp [St.ins, insL, putE, getK_setOb, getK_cons])
  | (refine V_ret ?_; simp only [RunK])
  | fail)
 refine EndW.here ?_
 (first | (refine EndOK.fin (.inr rfl) ?_) | (refine EndOK.fin (.inl rfl) ?_)); simp [resD, oneOrTup, Tryd.results34]
 (refine FinOK.sub (gObs) ?_ ?_ ?_ ?_ <;> simp [D.under, Ob.under_box, namesS, rowsV, Ob.under] <;> (try omega))
theorem names_ret (c : List UInt8) (h : c ∈ clausesL) : Ret Tryd.prog 22 [.u (.str c)] [] 1 (fun d o n => d = .vec (jOf c) (namesS c).length ∧ o = [(jOf c, .vec 33 3 (rowsD (rowsV (namesS c))))] ∧ n = 13) := by
 have h1 := given_ret
 simp only [clausesL, List.mem_cons, List.not_mem_nil, or_false] at h
 rcases h with rfl | rfl | rfl | rfl | rfl
 all_goals
  (refine Ret.of_bodyW Tryd.func22 rfl (by simp) fun Γ hn => ?_); simp only [entry, List.zipIdx_cons, List.zipIdx_nil, List.map_cons, List.map_nil, Nat.zero_add, Tryd.ntmps22]
  repeat' (first
  | (refine H_cons ?_; simp [del, getK_append])
  | (refine H_nil ?_; simp [del, getK_append])
  | (refine V_sseq ?_; simp [del, getK_append])
  | (refine V_ret ?_; simp only [RunK])
  | (refine CallP.ret0 (h1) (by rfl) (by first | assumption | simp) (by rfl) (by simp) ?_; rintro d o n' hn' ⟨rfl, rfl, rfl⟩; (try simp at hn'); (try simp [del, getK_append]))
  | fail)
  refine EndW.here ?_
  (first | (refine EndOK.fin (.inr rfl) ?_) | (refine EndOK.fin (.inl rfl) ?_)); simp [resD, oneOrTup, Tryd.results22]
 all_goals
  refine FinOK.cut _ 13 ?_ ?_ (by decide) ⟨?_, rfl, rfl⟩
  all_goals (simp [jOf, namesS, rowsV, getK, D.under, Ob.under]; done)
def fewBy (b : By) : Bool := few17 b.lets [] && fewE b.due && fewE b.fine && fewE b.pay && fewE b.cover && fewE b.hold
theorem fewLaws_fun (b : By) : Fun Tryd.prog 17 [.u (.agg (byCells b))] (· = .u (.bool (fewBy b))) := by
 have e0 := few_fun b.lets []
 have e1 := fewExp_fun b.due
 have e2 := fewExp_fun b.fine
 have e3 := fewExp_fun b.pay
 have e4 := fewExp_fun b.cover
 have e5 := fewExp_fun b.hold
 simp only [eagg, letsU, varsU, List.map_nil] at e0 e1 e2 e3 e4 e5
 unfold fewBy
 generalize few17 b.lets [] = x0 at e0 ⊢
 generalize fewE b.due = x1 at e1 ⊢
 generalize fewE b.fine = x2 at e2 ⊢
 generalize fewE b.pay = x3 at e3 ⊢
 generalize fewE b.cover = x4 at e4 ⊢
 generalize fewE b.hold = x5 at e5 ⊢
 (refine Fun.of_bodyW Tryd.func17 rfl (by simp) fun Γ hn => ?_); simp only [entry, List.zipIdx_cons, List.zipIdx_nil, List.map_cons, List.map_nil, Nat.zero_add, Tryd.ntmps17]
 simp only [byCells]
 repeat' (first
  | (refine H_cons ?_; simp)
  | (refine H_nil ?_; simp)
  | (refine V_sseq ?_; simp)
  | (refine V_ret ?_; simp only [RunK])
  | (refine ⟨fun hc => ?_, fun hc => ?_⟩ <;> (try (exfalso; omega)))
  | (refine CallP.fun_ (e0) (by first | rfl | fail) (by first | assumption | (simp; done) | fail) (by first | (simp; done) | (simp; rfl) | fail) (by first | (simp; done) | fail) (fun d hd => ?_); subst hd; (try simp))
  | (refine CallP.fun_ (e1) (by first | rfl | fail) (by first | assumption | (simp; done) | fail) (by first | (simp; done) | (simp; rfl) | fail) (by first | (simp; done) | fail) (fun d hd => ?_); subst hd; (try simp))
  | (refine CallP.fun_ (e2) (by first | rfl | fail) (by first | assumption | (simp; done) | fail) (by first | (simp; done) | (simp; rfl) | fail) (by first | (simp; done) | fail) (fun d hd => ?_); subst hd; (try simp))
  | (refine CallP.fun_ (e3) (by first | rfl | fail) (by first | assumption | (simp; done) | fail) (by first | (simp; done) | (simp; rfl) | fail) (by first | (simp; done) | fail) (fun d hd => ?_); subst hd; (try simp))
  | (refine CallP.fun_ (e4) (by first | rfl | fail) (by first | assumption | (simp; done) | fail) (by first | (simp; done) | (simp; rfl) | fail) (by first | (simp; done) | fail) (fun d hd => ?_); subst hd; (try simp))
  | (refine CallP.fun_ (e5) (by first | rfl | fail) (by first | assumption | (simp; done) | fail) (by first | (simp; done) | (simp; rfl) | fail) (by first | (simp; done) | fail) (fun d hd => ?_); subst hd; (try simp))
  | fail)
 all_goals
  refine EndW.here ?_
  (refine EndOK.val (.inr rfl) ?_; simp [resD, oneOrTup, pureD, Tryd.results17])
 all_goals (clear e0 e1 e2 e3 e4 e5; simp_all; done)
end Go.Proofs.YtfcopibncpkdoaaDoor
