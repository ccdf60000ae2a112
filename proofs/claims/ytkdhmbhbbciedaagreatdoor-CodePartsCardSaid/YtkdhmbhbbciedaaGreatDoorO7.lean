import Derived.Test.YtkdhmbhbbciedaaGreatDoorO6
set_option linter.all false
set_option maxRecDepth 100000
set_option maxHeartbeats 8000000
namespace Go.Proofs.YtkdhmbhbbciedaaGreatDoor
open Go Go.VL
attribute [local simp] HS za2 zcH zbP evPure opd uOf zaq St.put St.at getK binD binI binS binB nilD aggD ze4 zfg lookD lookR zbM rangeS Go.VL.nextD Go.VL.nextS zbR zfi zfh zeD zb0 mkV zaX zaE zaD zaC zcG zaA zaP za5 mapEff zdm zeo Key.kk shiftI arith unD convD zda loadD cellsAt fieldAddrD fieldD indexAddrD indexSlD arrAddr indexD sliceD cutD lenD minmaxD nilCheckD buildD fillD zbv zcI zec setAll zcA zd1 zbK zeT zbJ St.add zak zbd rowsOf zcU zcb zad zac zaa zaW zcy zaH entry zah zaj valD zbW zcu zeU zcN zcO zbC zbu zag zaM za4 delAll effD St.effS zb6 zaF zat zb7 zaG zav zbq zau zam zbr zb5 za1 zbm zaO zbl zai mkD zbi zbb zbf zag zbT D.ids Op.operands Call.operands zbc makeIfD makeFuncD typeAssertD zff zcX zcY zfb zbN IntKind.bits zcx List.take_of_length_le List.range_succ zcm zbF zcn zch zba zbw zby zci zbA zaU zbz zbx zfO zbE zck zaK zaw zcl zaL zay zbD zax zap zcq zcr zfN zab frzN frz1 zaR zaQ St.frz St.frzS frzS fv zbQ zb2 zb3 zaS zaz zan frz zcd zbU zbY zbZ za6 St.norm St.lp St.only zaY wkE wkO wkU Ob.under D.under zal zar zco zbG zcp h4s zdT zas za7 List.zipIdx_cons List.zipIdx_nil List.map_cons List.map_nil Nat.zero_add
attribute [local irreducible] V G H HD HD2 HD4 zgw RetX za3 Eff CallP CallV EndOK Fun Ret FinOK LoopI LoopW EndW HR vs2 RN Cnd H4
theorem ztU {l : List Tok} {F : FuncId} {r : PR (Exp × Int)} {e : Exp × Int} {q i nx : Nat} {ds : List D} {obs : List (Nat × Ob)} (h : RetX Tryz.prog F ds obs nx (PPost l i nx zkO r)) (hr : r = .ok e q) :
  RetX Tryz.prog F ds obs nx fun r o n => r = .val (.tup [.u (.agg [.int .i64 e.1.op, .int .i64 e.1.n, .int .i64 e.1.unit, .str e.1.s, .sl (e.1.args.map Exp.row)]), .u (.int .i64 e.2)]) /\ o = [(i, pOb l q)] /\ n = nx := by
 subst hr;rw [<- Exp.row_eq];exact h
abbrev zu7 (e : Exp) : Ob := .box [.u (.int .i64 e.op), .u (.int .i64 e.n), .u (.int .i64 e.unit), .u (.str e.s), .u (.sl (e.args.map Exp.row))]
theorem zrc {l : List Tok} (hl : TokOK l) {f : Nat} (hE : ∀ g, g < f -> zg8 l g) (hP : ztt l f) : zg8 l (f + 1) := by
 intro p form i nx hi hp hf hm0 hm7;have hne := zbo hi;have hll := hl.len;rw [zfu];have ha := fun nx' (h : nx <= nx') => hP p form i nx' (by omega) hp (by omega) hm0 hm7;have hop := zjA;cases hr0 : zcc l f p form with
 | stop pos e =>
  simp only [hr0] at ha;refine RetX.runW Tryz.func106 Tryz.ntmps106 rfl (by simp) fun Γ hn hpan => ?_
  repeat' (first
  | (refine zaf rfl ?_; simp [hne, del, Nat.add_assoc])
  | (refine CallP.zhq (ha _ (by first | omega | (simp; done) | (simp; omega) | fail)) (by first | (simp [hne, del, Nat.add_assoc, zaa, getK, zab, zac]; done) | fail) (by rfl) (by first | assumption | (simp; done) | fail) (by rfl) (by simp) ?_; rintro ob' ⟨q', rfl⟩; refine ⟨_, Wk.refl _, ?_⟩)
  | fail)
  (refine hpan _ _ (PanG.k ([(i, pOb l q')]) (nx) (by simp [hn, hi, hne, zab, zac, zaa, getK] <;> omega) ?_); try simp)
  exact PPost.zcf (by simp [PR.bind, *])
 | ok v0 q0 =>
  have ha := fun nx' h => ztU (ha nx' h) hr0;obtain ⟨g0a, g0b⟩ := (zdH hl f).2.2.1 _ _ _ _ hr0 hp;generalize hR : (PR.ok v0 q0).bind (fun e q => zfL l f form e.1 e.2 q) = R;have hR' : R = zfL l f form v0.1 v0.2 q0 := hR.symm;refine RetX.runW Tryz.func106 Tryz.ntmps106 rfl (by simp) fun Γ hn hpan => ?_
  repeat' (first
  | (refine zaf rfl ?_; simp [hne, del, Nat.add_assoc])
  | (refine CallP.ok1 (ha _ (by first | omega | (simp; done) | (simp; omega) | fail)) (by first | (simp [hne, del, Nat.add_assoc, zaa, getK, zab, zac]; done) | fail) (by rfl) (by first | assumption | (simp; done) | fail) (by rfl) (by simp) ?_; (try simp [hne, del, Nat.add_assoc]))
  | fail)
  refine zdz (α := { x : Exp × Int × Nat × Nat // x.2.2.1 < l.length /\ 4 * (l.length - x.2.2.1) + 2 <= x.2.2.2 /\ x.2.2.2 <= f /\ R = zfL l x.2.2.2 form x.1 x.2.1 x.2.2.1 }) [0, 1, 2, 4, 5] (fun x => [(6, .u (.int .i64 x.1.2.1))])
   (fun x => [(nx + 2, zu7 x.1.1), (nx + 1, .box [.u (.int .i64 0), .u (.int .i64 0), .u (.int .i64 0), .u (.str []), .u .nil]), (nx, .box [.ptr i 0]), (i, pOb l x.1.2.2.1)]) (nx + 3) (fun x => x.1.2.2.2) ⟨(v0.1, v0.2, q0, f), g0b, (by show 4 * (l.length - q0) + 2 <= f; omega), (by show f <= f; omega), hR'⟩ ?_ ?_
  ·have hi3 : i < nx + 3 := by omega
   exact (Wk.zem (by simp [hn, hi, hi3, hne] <;> grind))
  rintro ⟨⟨e, own, q, g⟩, h1, h2, h2b, h3⟩;simp only at h1 h2 h2b h3;simp;obtain ⟨g, rfl⟩ : ∃ g', g = g' + 1 := ⟨g - 1, by omega⟩;rw [zfL] at h3;have hix := znU l q h1 hl.len;cases hx : ztX l q with
  | none =>
   rw [(zh1 oprs 0).1 hx] at hix;rw [hx] at h3
   repeat' (first
  | (refine zaf rfl ?_; simp [hne, del, Nat.add_assoc])
  | ((first | refine CallP.f2 rfl (hop) (by first | simp [hne, del, Nat.add_assoc] <;> rfl | fail) ?_ | refine CallP.f2 rfl (hix) (by first | simp [hne, del, Nat.add_assoc] <;> rfl | fail) ?_ | fail); simp [hne, del, Nat.add_assoc])
  | fail)
   refine EndW.norm ?_;simp [St.norm, za6, zbU, zbY, zbZ, hne, Nat.add_assoc]
   (refine EndW.z ([(i, pOb l q)]) (N := nx) Tryz.results106 (by simp [hne, hi] <;> omega) ?_; simp [hne, hi])
   exact PPost.zeS h3 (by simp [Exp.row_eq]) rfl
  | some x =>
   obtain ⟨k, hk1, hk2⟩ := (zh1 oprs 0).2 x hx;rw [hk2] at hix;rw [hx] at h3;simp only at h3;have hqb := zcM hl (by have := List.find?_some (p := fun o : Opr => isB l q o.text) hx; exact this);have hk0 : ¬ ((k : Int) < 0) := by omega
   have hkl : k < 8 := (List.getElem?_eq_some_iff.1 hk1).1;rw [show (0 : Int) + k = (k : Int) by omega] at hix;have hfm : 0 <= x.form /\ x.form <= 6 := by
    have := List.mem_of_getElem? hk1;simp only [oprs, List.mem_cons, List.not_mem_nil, or_false] at this;rcases this with rfl | rfl | rfl | rfl | rfl | rfl | rfl | rfl <;> decide
   obtain ⟨hf0, hf6⟩ := hfm;generalize hL : oprs = L at hop hix hk1;by_cases c1 : x.form < form
   ·rw [if_pos (Or.inl c1)] at h3
    repeat' (first
  | (refine zaf rfl ?_; simp [hne, del, Nat.add_assoc, hk0, hk1, c1])
  | ((first | refine CallP.f2 rfl (hop) (by first | simp [hne, del, Nat.add_assoc, hk0, hk1, c1] <;> rfl | fail) ?_ | refine CallP.f2 rfl (hix) (by first | simp [hne, del, Nat.add_assoc, hk0, hk1, c1] <;> rfl | fail) ?_ | fail); simp [hne, del, Nat.add_assoc, hk0, hk1, c1])
  | fail)
    refine EndW.norm ?_;simp [St.norm, za6, zbU, zbY, zbZ, hne, Nat.add_assoc]
    (refine EndW.z ([(i, pOb l q)]) (N := nx) Tryz.results106 (by simp [hne, hi] <;> omega) ?_; simp [hne, hi])
    exact PPost.zeS h3 (by simp [Exp.row_eq]) rfl
   ·by_cases c2 : own < x.form
    ·rw [if_pos (Or.inr (Or.inl c2))] at h3
     repeat' (first
  | (refine zaf rfl ?_; simp [hne, del, Nat.add_assoc, hk0, hk1, c1, c2])
  | ((first | refine CallP.f2 rfl (hop) (by first | simp [hne, del, Nat.add_assoc, hk0, hk1, c1, c2] <;> rfl | fail) ?_ | refine CallP.f2 rfl (hix) (by first | simp [hne, del, Nat.add_assoc, hk0, hk1, c1, c2] <;> rfl | fail) ?_ | fail); simp [hne, del, Nat.add_assoc, hk0, hk1, c1, c2])
  | fail)
     refine EndW.norm ?_;simp [St.norm, za6, zbU, zbY, zbZ, hne, Nat.add_assoc]
     (refine EndW.z ([(i, pOb l q)]) (N := nx) Tryz.results106 (by simp [hne, hi] <;> omega) ?_; simp [hne, hi])
     exact PPost.zeS h3 (by simp [Exp.row_eq]) rfl
    ·by_cases c3 : own = 4 /\ x.form = 4
     ·rw [if_pos (Or.inr (Or.inr c3))] at h3;obtain ⟨c4, c5⟩ := c3
      repeat' (first
  | (refine Cnd.of (fun hc => ?_) (fun hc => ?_) <;> (try (exfalso; omega)) <;> (try simp [hne, del, Nat.add_assoc, hk0, hk1, c1, c2, c4, c5]))
  | (refine zaf rfl ?_; simp [hne, del, Nat.add_assoc, hk0, hk1, c1, c2, c4, c5])
  | ((first | refine CallP.f2 rfl (hop) (by first | simp [hne, del, Nat.add_assoc, hk0, hk1, c1, c2, c4, c5] <;> rfl | fail) ?_ | refine CallP.f2 rfl (hix) (by first | simp [hne, del, Nat.add_assoc, hk0, hk1, c1, c2, c4, c5] <;> rfl | fail) ?_ | fail); simp [hne, del, Nat.add_assoc, hk0, hk1, c1, c2, c4, c5])
  | fail)
      refine EndW.norm ?_;simp [St.norm, za6, zbU, zbY, zbZ, hne, Nat.add_assoc]
      (refine EndW.z ([(i, pOb l q)]) (N := nx) Tryz.results106 (by simp [hne, hi] <;> omega) ?_; simp [hne, hi])
      exact PPost.zeS h3 (by simp [Exp.row_eq]) rfl
     ·rw [if_neg (by rintro (h | h | h) <;> contradiction)] at h3;have hb := fun nx' (h : nx <= nx') => hE g (by omega) (q + 1) (x.form + 1) i nx' (by omega) hqb (by omega) (by omega) (by omega);cases hr1 : zfu l g (q + 1) (x.form + 1) with
      | stop pos err =>
       simp only [hr1] at hb;rw [hr1] at h3;by_cases c4 : own = 4
       ·have c5 : ¬ x.form = 4 := fun h => c3 ⟨c4, h⟩
        repeat' (first
  | (refine zho (fun nx' h' => hb nx' (by simp at h'; omega)) (by first | (simp [hne, del, Nat.add_assoc, hk0, hk1, c1, c2, c4, c5, zaa, getK, zab, zac, zad, zai]; done) | fail) (by rfl) (by first | assumption | simp) (by rfl) (by simp) ?_ ?_; rintro env' ob' n' hn' ⟨q', rfl⟩; refine ⟨_, Wk.refl _, ?_⟩)
  | (refine zgt rfl (by simp) ?_; simp)
  | (refine Cnd.of (fun hc => ?_) (fun hc => ?_) <;> (try (exfalso; omega)) <;> (try simp [hne, del, Nat.add_assoc, hk0, hk1, c1, c2, c4, c5]))
  | (refine zaf rfl ?_; simp [hne, del, Nat.add_assoc, hk0, hk1, c1, c2, c4, c5])
  | (refine And.intro (by omega) ?_)
  | (refine zhp (hC _ (zdI [i] nx (by simp <;> omega) (by simp <;> omega) (by apply Exists.intro; apply And.intro; (focus (repeat' (first | exact KF.nil | exact KL.nil | apply KF.cons | apply KL.cons 0 rfl | apply KL.cons 1 rfl | apply KL.cons 2 rfl | apply KL.cons 3 rfl | apply KL.cons 4 rfl | apply KL.cons 5 rfl | apply KL.cons 6 rfl | apply KL.cons 7 rfl | apply KL.cons 8 rfl | apply KL.cons 9 rfl))); kernel_rfl))) rfl; done)
  | (refine zdX rfl (by kernel_rfl) (by first | (simp [hn]; done) | (simp [hn]; omega) | fail) fun C k hC hk => ?_; simp [hne, del, Nat.add_assoc, hk0, hk1, c1, c2, c4, c5])
  | ((first | refine CallP.f2 rfl (hop) (by first | simp [hne, del, Nat.add_assoc, hk0, hk1, c1, c2, c4, c5] <;> rfl | fail) ?_ | refine CallP.f2 rfl (hix) (by first | simp [hne, del, Nat.add_assoc, hk0, hk1, c1, c2, c4, c5] <;> rfl | fail) ?_ | fail); simp [hne, del, Nat.add_assoc, hk0, hk1, c1, c2, c4, c5])
  | fail)
        (refine hpan _ _ (PanG.k ([(i, pOb l q')]) (nx) (by simp [hn, hi, hne, zab, zac, zaa, getK] <;> omega) ?_); try simp)
        exact PPost.zcf h3
       ·repeat' (first
  | (refine zho (fun nx' h' => hb nx' (by simp at h'; omega)) (by first | (simp [hne, del, Nat.add_assoc, hk0, hk1, c1, c2, c4, zaa, getK, zab, zac, zad, zai]; done) | fail) (by rfl) (by first | assumption | simp) (by rfl) (by simp) ?_ ?_; rintro env' ob' n' hn' ⟨q', rfl⟩; refine ⟨_, Wk.refl _, ?_⟩)
  | (refine zgt rfl (by simp) ?_; simp)
  | (refine zaf rfl ?_; simp [hne, del, Nat.add_assoc, hk0, hk1, c1, c2, c4])
  | (refine And.intro (by omega) ?_)
  | (refine zhp (hC _ (zdI [i] nx (by simp <;> omega) (by simp <;> omega) (by apply Exists.intro; apply And.intro; (focus (repeat' (first | exact KF.nil | exact KL.nil | apply KF.cons | apply KL.cons 0 rfl | apply KL.cons 1 rfl | apply KL.cons 2 rfl | apply KL.cons 3 rfl | apply KL.cons 4 rfl | apply KL.cons 5 rfl | apply KL.cons 6 rfl | apply KL.cons 7 rfl | apply KL.cons 8 rfl | apply KL.cons 9 rfl))); kernel_rfl))) rfl; done)
  | (refine zdX rfl (by kernel_rfl) (by first | (simp [hn]; done) | (simp [hn]; omega) | fail) fun C k hC hk => ?_; simp [hne, del, Nat.add_assoc, hk0, hk1, c1, c2, c4])
  | ((first | refine CallP.f2 rfl (hop) (by first | simp [hne, del, Nat.add_assoc, hk0, hk1, c1, c2, c4] <;> rfl | fail) ?_ | refine CallP.f2 rfl (hix) (by first | simp [hne, del, Nat.add_assoc, hk0, hk1, c1, c2, c4] <;> rfl | fail) ?_ | fail); simp [hne, del, Nat.add_assoc, hk0, hk1, c1, c2, c4])
  | fail)
        (refine hpan _ _ (PanG.k ([(i, pOb l q')]) (nx) (by simp [hn, hi, hne, zab, zac, zaa, getK] <;> omega) ?_); try simp)
        exact PPost.zcf h3
      | ok e2 q2 =>
       have hb := fun nx' h => zeN (hb nx' h) hr1;obtain ⟨g1a, g1b⟩ := (zdH hl g).1 _ _ _ _ hr1 hqb;rw [hr1] at h3;by_cases c4 : own = 4
       ·have c5 : ¬ x.form = 4 := fun h => c3 ⟨c4, h⟩
        repeat' (first
  | (refine zkf (fun nx' h' => hb nx' (by simp at h'; omega)) (by first | (simp [hne, del, Nat.add_assoc, hk0, hk1, c1, c2, c4, c5, zaa, getK, zab, zac, zad, zai]; done) | fail) (by rfl) (by first | assumption | simp) (by rfl) (by simp [D.under, Ob.under]) (by simp) ?_; (try simp [hne, del, Nat.add_assoc, hk0, hk1, c1, c2, c4, c5]))
  | (refine Cnd.of (fun hc => ?_) (fun hc => ?_) <;> (try (exfalso; omega)) <;> (try simp [hne, del, Nat.add_assoc, hk0, hk1, c1, c2, c4, c5]))
  | (refine zaf rfl ?_; simp [hne, del, Nat.add_assoc, hk0, hk1, c1, c2, c4, c5])
  | (refine And.intro (by omega) ?_)
  | (refine ⟨hC _ (zdI [i] nx (by simp <;> omega) (by simp <;> omega) (by apply Exists.intro; apply And.intro; (focus (repeat' (first | exact KF.nil | exact KL.nil | apply KF.cons | apply KL.cons 0 rfl | apply KL.cons 1 rfl | apply KL.cons 2 rfl | apply KL.cons 3 rfl | apply KL.cons 4 rfl | apply KL.cons 5 rfl | apply KL.cons 6 rfl | apply KL.cons 7 rfl | apply KL.cons 8 rfl | apply KL.cons 9 rfl))); kernel_rfl)), hk _ (zdb 8 _ _ _ ?_)⟩; clear hC hk C k; simp [hne, del, Nat.add_assoc, hk0, hk1, c1, c2, c4, c5])
  | (refine zdX rfl (by kernel_rfl) (by first | (simp [hn]; done) | (simp [hn]; omega) | fail) fun C k hC hk => ?_; simp [hne, del, Nat.add_assoc, hk0, hk1, c1, c2, c4, c5])
  | (refine zb9 rfl ?_; simp [hne, del, Nat.add_assoc, hk0, hk1, c1, c2, c4, c5])
  | ((first | refine CallP.f2 rfl (hop) (by first | simp [hne, del, Nat.add_assoc, hk0, hk1, c1, c2, c4, c5] <;> rfl | fail) ?_ | refine CallP.f2 rfl (hix) (by first | simp [hne, del, Nat.add_assoc, hk0, hk1, c1, c2, c4, c5] <;> rfl | fail) ?_ | fail); simp [hne, del, Nat.add_assoc, hk0, hk1, c1, c2, c4, c5])
  | fail)
        have hi3 : i < nx + 3 := by omega
        refine LoopW.next ⟨(.mk x.op 0 0 [] [e, e2], x.form, q2, g), g1b, (by show 4 * (l.length - q2) + 2 <= g; omega), (by show g <= f; omega), h3⟩ (by show g < g + 1; omega) ?_
        refine Wk.trans (Wk.frzN 1 _) ?_;simp [hne, Nat.add_assoc, frzN, frz1, zaR, zaQ, St.frz, St.frzS, frzS, fv, zbQ, zb2, zb3, zaS, zaz, zan, del, frz, zcd];exact (Wk.zem (by simp [hn, hi, hi3, hne, Exp.row_eq, Exp.op, Exp.n, Exp.unit, Exp.s, Exp.args] <;> grind))
       ·repeat' (first
  | (refine zkf (fun nx' h' => hb nx' (by simp at h'; omega)) (by first | (simp [hne, del, Nat.add_assoc, hk0, hk1, c1, c2, c4, zaa, getK, zab, zac, zad, zai]; done) | fail) (by rfl) (by first | assumption | simp) (by rfl) (by simp [D.under, Ob.under]) (by simp) ?_; (try simp [hne, del, Nat.add_assoc, hk0, hk1, c1, c2, c4]))
  | (refine zaf rfl ?_; simp [hne, del, Nat.add_assoc, hk0, hk1, c1, c2, c4])
  | (refine And.intro (by omega) ?_)
  | (refine ⟨hC _ (zdI [i] nx (by simp <;> omega) (by simp <;> omega) (by apply Exists.intro; apply And.intro; (focus (repeat' (first | exact KF.nil | exact KL.nil | apply KF.cons | apply KL.cons 0 rfl | apply KL.cons 1 rfl | apply KL.cons 2 rfl | apply KL.cons 3 rfl | apply KL.cons 4 rfl | apply KL.cons 5 rfl | apply KL.cons 6 rfl | apply KL.cons 7 rfl | apply KL.cons 8 rfl | apply KL.cons 9 rfl))); kernel_rfl)), hk _ (zdb 8 _ _ _ ?_)⟩; clear hC hk C k; simp [hne, del, Nat.add_assoc, hk0, hk1, c1, c2, c4])
  | (refine zdX rfl (by kernel_rfl) (by first | (simp [hn]; done) | (simp [hn]; omega) | fail) fun C k hC hk => ?_; simp [hne, del, Nat.add_assoc, hk0, hk1, c1, c2, c4])
  | (refine zb9 rfl ?_; simp [hne, del, Nat.add_assoc, hk0, hk1, c1, c2, c4])
  | ((first | refine CallP.f2 rfl (hop) (by first | simp [hne, del, Nat.add_assoc, hk0, hk1, c1, c2, c4] <;> rfl | fail) ?_ | refine CallP.f2 rfl (hix) (by first | simp [hne, del, Nat.add_assoc, hk0, hk1, c1, c2, c4] <;> rfl | fail) ?_ | fail); simp [hne, del, Nat.add_assoc, hk0, hk1, c1, c2, c4])
  | fail)
        have hi3 : i < nx + 3 := by omega
        refine LoopW.next ⟨(.mk x.op 0 0 [] [e, e2], x.form, q2, g), g1b, (by show 4 * (l.length - q2) + 2 <= g; omega), (by show g <= f; omega), h3⟩ (by show g < g + 1; omega) ?_
        refine Wk.trans (Wk.frzN 1 _) ?_;simp [hne, Nat.add_assoc, frzN, frz1, zaR, zaQ, St.frz, St.frzS, frzS, fv, zbQ, zb2, zb3, zaS, zaz, zan, del, frz, zcd];exact (Wk.zem (by simp [hn, hi, hi3, hne, Exp.row_eq, Exp.op, Exp.n, Exp.unit, Exp.s, Exp.args] <;> grind))
theorem zsy (s : List UInt8) (l : List Tok) (nx : Nat) (h : zpd s = .ok l) :
  RetX Tryz.prog 103 [.u (.str s)] [] nx (fun r o n => r = .val (.tup [.ptr nx 0, .u (.int .i64 0), .u (.int .i64 0)]) /\ o = [(nx, pOb l 0)] /\ n = nx + 1) := by
 have h1 := zpc s;rw [h] at h1;simp only [ziX] at h1;refine RetX.runW Tryz.func103 Tryz.ntmps103 rfl (by simp) fun Γ hn hpan => ?_
 repeat' (first
  | (refine zaf rfl ?_; simp)
  | (refine CallP.f2 rfl (h1) (by first | simp <;> rfl | fail) ?_; simp)
  | fail)
 (refine EndW.h Tryz.results103 ?_; simp)
theorem zqH (s : List UInt8) (p : Nat) (e : Int) (nx : Nat) (h : zpd s = .error (p, e)) :
  RetX Tryz.prog 103 [.u (.str s)] [] nx (fun r o n => r = .val (.tup [.ptr nx 0, .u (.int .i64 p), .u (.int .i64 e)]) /\ o = [(nx, pOb [] 0)] /\ n = nx + 1) := by
 have h1 := zpc s;rw [h] at h1;simp only [ziX] at h1;refine RetX.runW Tryz.func103 Tryz.ntmps103 rfl (by simp) fun Γ hn hpan => ?_
 repeat' (first
  | (refine zaf rfl ?_; simp)
  | (refine CallP.f2 rfl (h1) (by first | simp <;> rfl | fail) ?_; simp)
  | fail)
 (refine EndW.h Tryz.results103 ?_; simp)
theorem zmk (i j nx : Nat) (hi : i < nx) (hj : j < nx) (hij : i ≠ j) (p e : Int) :
  RetX Tryz.prog 105 [.u (.oth .nilIface), .ptr i 0, .ptr j 0] [(i, .box [.u (.int .i64 p)]), (j, .box [.u (.int .i64 e)])] nx
   (fun r o n => r = .val (.u (.bool false)) /\ o = [(i, .box [.u (.int .i64 p)]), (j, .box [.u (.int .i64 e)])] /\ n = nx) := by
 have hne := zbo hi;have hne2 := zbo hj;refine RetX.runW Tryz.func105 Tryz.ntmps105 rfl (by simp) fun Γ hn hpan => ?_
 repeat' (first
  | (refine zaf rfl ?_; simp [hne, hne2, hij, Ne.symm hij])
  | fail)
 refine ⟨(true, [.int .i64 0, .int .i64 0]), rfl, ?_⟩;simp [hne, hne2, hij, Ne.symm hij]
 repeat' (first | fail)
 (refine EndW.z ([(i, .box [.u (.int .i64 p)]), (j, .box [.u (.int .i64 e)])]) (N := nx) Tryz.results105 (by simp [hne, hne2, hij, Ne.symm hij, hi, hj] <;> omega) ?_; simp [hne, hne2, hij, Ne.symm hij, hi, hj])
theorem zmj (i j nx : Nat) (hi : i < nx) (hj : j < nx) (hij : i ≠ j) (p e pos err : Int) :
  RetX Tryz.prog 105 [.u (.oth (.iface 179 (.agg #[.int .i64 pos, .int .i64 err]))), .ptr i 0, .ptr j 0] [(i, .box [.u (.int .i64 p)]), (j, .box [.u (.int .i64 e)])] nx
   (fun r o n => r = .val (.u (.bool true)) /\ o = [(i, .box [.u (.int .i64 pos)]), (j, .box [.u (.int .i64 err)])] /\ n = nx) := by
 have hne := zbo hi;have hne2 := zbo hj;refine RetX.runW Tryz.func105 Tryz.ntmps105 rfl (by simp) fun Γ hn hpan => ?_
 repeat' (first
  | (refine zaf rfl ?_; simp [hne, hne2, hij, Ne.symm hij])
  | (refine ⟨hC _ (zdI [i, j] nx (by simp <;> omega) (by simp <;> omega) (by apply Exists.intro; apply And.intro; (focus (repeat' (first | exact KF.nil | exact KL.nil | apply KF.cons | apply KL.cons 0 rfl | apply KL.cons 1 rfl | apply KL.cons 2 rfl | apply KL.cons 3 rfl | apply KL.cons 4 rfl | apply KL.cons 5 rfl | apply KL.cons 6 rfl | apply KL.cons 7 rfl | apply KL.cons 8 rfl | apply KL.cons 9 rfl))); kernel_rfl)), hk _ (zdb 8 _ _ _ ?_)⟩; clear hC hk C k; simp [hne, hne2, hij, Ne.symm hij])
  | (refine zdX rfl (by kernel_rfl) (by first | (simp [hn]; done) | (simp [hn]; omega) | fail) fun C k hC hk => ?_; simp [hne, hne2, hij, Ne.symm hij])
  | fail)
 (refine EndW.z ([(i, .box [.u (.int .i64 pos)]), (j, .box [.u (.int .i64 err)])]) (N := nx) Tryz.results105 (by simp [hne, hne2, hij, Ne.symm hij, hi, hj] <;> omega) ?_; simp [hne, hne2, hij, Ne.symm hij, hi, hj])
theorem zqG (i j q nx : Nat) (hi : i < nx) (hj : j < nx) (hq : q < nx) (hij : i ≠ j) (hiq : i ≠ q) (hjq : j ≠ q) (p e : Int) (cells : List U) :
  RetDf Tryz.prog 104 [.ptr i 0, .ptr j 0, .ptr q 0] [(i, .box [.u (.int .i64 p)]), (j, .box [.u (.int .i64 e)]), (q, .box (cells.map .u))] nx .returning
   (fun u o n => settle u = .returning /\ n = nx /\ o = [(i, .box [.u (.int .i64 p)]), (j, .box [.u (.int .i64 e)]), (q, .box (cells.map .u))]) := by
 have hne := zbo hi;have hne2 := zbo hj;have hne3 := zbo hq;have hc0 := zmk i j nx hi hj hij p e;refine RetDf.of_body Tryz.func104 rfl (by simp) (by simp) rfl fun Γ hn => ?_;simp [entry, znw, Tryz.ntmps104];refine CallP.x2 hc0 (by simp [getK]) (by simp [getK, hij, Ne.symm hij]) hij rfl rfl (by simp) (by simp) (fun d o1 nx' hnx h => ?_) (fun ch o1 nx' hnx h => by cases h.1);obtain ⟨h1, rfl, h4⟩ := h;have h4 := h4.symm;subst h4;cases h1;simp [del, hij, Ne.symm hij, hiq, hjq, Ne.symm hiq, Ne.symm hjq]
 repeat' (first
  | (refine zaf rfl ?_; simp [hij, hiq, hjq])
  | fail)
 (refine ⟨by simp, { n := _, env := [], obs := [(i, .box [.u (.int .i64 p)]), (j, .box [.u (.int .i64 e)]), (q, .box (cells.map .u))], next := nx }, (Wk.cut rfl (by simp [hn]) (by simp [wkO, zaa, getK, zab, zac, Ob.under, D.under, zal, zar, hi, hj, hq, hne, hne2, hne3, hij, hiq, hjq, Ne.symm hij, Ne.symm hiq, Ne.symm hjq]) (by simp [wkU, zaY, zaa, getK, D.under, hi, hj, hq, hne, hne2, hne3, hij, hiq, hjq, Ne.symm hij, Ne.symm hiq, Ne.symm hjq]) (by simp [wkE, zaY, zaa, getK, hi, hj, hq, hne, hne2, hne3, hij, hiq, hjq, Ne.symm hij, Ne.symm hiq, Ne.symm hjq])), by simp [hn], ?_⟩; try simp)
 all_goals rfl
end Go.Proofs.YtkdhmbhbbciedaaGreatDoor
namespace Go.Proofs.YtkdhmbhbbciedaaGreatDoor
open Go Go.VL
theorem ExpX.cast {lets shs m n e F F'} (h : ExpX lets shs m n e F) (e' : F = F') : ExpX lets shs m n e F' := e' ▸ h
theorem zsQ {lets : List Let} (hr : ∀ l ∈ lets, za0 12 l.body = true) (hll : lets.length <= 20) (m : Nat) : ∀ (n : Nat), n <= lets.length -> ∀ (d : Nat), d <= 12 -> ∀ e : Exp, za0 d e = true ->
  ExpX lets (zdE lets lets.length) m n e (zev (nmC lets (shF lets) n) (shF lets n) e) := by
 intro n
 induction n using Nat.strongRecOn with
 | ind n ihn =>
 intro hn d
 induction d with
 | zero => intro _ e he; simp [za0] at he
 | succ d ih =>
  intro hd e he;obtain ⟨h1, h2, h3, h4⟩ := zdj he;have hcap := fun x => zgg (sh := shF lets n) (zhM (lets := lets) (sh := shF lets) n) x;have hpre := fun x => zgf (sh := shF lets n) (zhL (lets := lets) (sh := shF lets) n) x;by_cases h0 : e.op = 0
  ·refine (zsP h0).cast (funext fun c => ?_);rw [zd4, if_pos h0]
  by_cases hnm : e.op = 1
  ·refine (zrd lets _ m n e hnm hn (by omega) fun i l hi hl => ⟨_, ihn i hi (by omega) 12 (by omega) l.body (hr l (List.mem_of_getElem? hl)), rfl⟩).cast (funext fun c => ?_);rw [zd4, if_neg h0, if_pos hnm]
  have hargs := h4 h0 hnm;have hE : ∀ x ∈ e.args, ExpX lets (zdE lets lets.length) m n x (zev (nmC lets (shF lets) n) (shF lets n) x) := fun x hx => ih (by omega) x (hargs x hx);by_cases hA : e.op = 10
  ·obtain ⟨a, b, hab⟩ : ∃ a b, e.args = [a, b] := by
    have hl : e.args.length = 2 := by rw [hA] at h1; simp [zbt] at h1; omega
    match hq : e.args, hl with
    | [a, b], _ => exact ⟨a, b, rfl⟩
   refine (zgL (.inl hA) (zoc hA hab (hE a (by simp [hab])) (hcap a) (hpre a) (hE b (by simp [hab])) (hcap b) (hpre b))).cast (funext fun c => ?_);rw [zd4, if_neg h0, if_neg hnm, if_pos hA, hab, zdw (i := 0) (e := a) rfl, zdw (i := 1) (e := b) rfl]
  by_cases hO : e.op = 11
  ·obtain ⟨a, b, hab⟩ : ∃ a b, e.args = [a, b] := by
    have hl : e.args.length = 2 := by rw [hO] at h1; simp [zbt] at h1; omega
    match hq : e.args, hl with
    | [a, b], _ => exact ⟨a, b, rfl⟩
   refine (zgL (.inr (.inl hO)) (zpK hO hab (hE a (by simp [hab])) (hcap a) (hpre a) (hE b (by simp [hab])) (hcap b) (hpre b))).cast (funext fun c => ?_);rw [zd4, if_neg h0, if_neg hnm, if_neg hA, if_pos hO, hab, zdw (i := 0) (e := a) rfl, zdw (i := 1) (e := b) rfl]
  by_cases hI : e.op = 13
  ·obtain ⟨a, b, z, hab⟩ : ∃ a b z, e.args = [a, b, z] := by
    have hl : e.args.length = 3 := by rw [hI] at h1; simp [zbt] at h1; omega
    match hq : e.args, hl with
    | [a, b, z], _ => exact ⟨a, b, z, rfl⟩
   refine (zgL (.inr (.inr hI)) (zpL hI hab (hE a (by simp [hab])) (hcap a) (hpre a) (hE b (by simp [hab])) (hcap b) (hpre b) (hE z (by simp [hab])) (hcap z) (hpre z))).cast (funext fun c => ?_);rw [zd4, if_neg h0, if_neg hnm, if_neg hA, if_neg hO, if_pos hI, hab, zdw (i := 0) (e := a) rfl, zdw (i := 1) (e := b) rfl, zdw (i := 2) (e := z) rfl]
  refine (zpC lets m n d e (by omega) hn (by omega) hr hll he (by omega) hE).cast (funext fun c => ?_);rw [zd4, if_neg h0, if_neg hnm, if_neg hA, if_neg hO, if_neg hI]
abbrev zcj (l : List Bool) : List (List D) := l.map fun b => [.u (.bool b)]
theorem ze8 (l : List Bool) : zcx (zcj l) = some (l.map fun b => [.bool b]) := by
 have : zcj l = (l.map fun b => [U.bool b]).map (·.map D.u) := by simp [zcj]
 rw [this, zgq]
theorem zjc (l : List Bool) : (zcj l).take l.length = zcj l := by have : (zcj l).length = l.length := by simp [zcj]
                                                                  rw [<- this, List.take_length]
theorem zhF (l : List Bool) : zaN (zcj l) := by
 induction l with
 | nil => simp [zcj, zaN]
 | cons a l ih => simp only [zcj] at ih; simp [zcj, zaN, zbn, ih]
theorem zjd (l : List Bool) : zot 1 (zcj l) := by intro r hr; obtain ⟨i, _, rfl⟩ := List.mem_map.1 hr; rfl
end Go.Proofs.YtkdhmbhbbciedaaGreatDoor
namespace Go.Proofs.YtkdhmbhbbciedaaGreatDoor
open Go Go.VL Go.Shelf Go.RowKit
attribute [local simp] HS za2 zcH zbP evPure opd uOf zaq St.put St.at getK binD binI binS binB nilD aggD ze4 zfg lookD lookR zbM rangeS Go.VL.nextD Go.VL.nextS zbR zfi zfh zeD zb0 mkV zaX zaE zaD zaC zcG zaA zaP za5 mapEff zdm zeo Key.kk shiftI arith unD convD zda loadD cellsAt fieldAddrD fieldD indexAddrD indexSlD arrAddr indexD sliceD cutD lenD minmaxD nilCheckD buildD fillD zbv zcI zec setAll zcA zd1 zbK zeT zbJ St.add zak zbd rowsOf zcU zcb zad zac zaa zaW zcy zaH entry zah zaj valD zbW zcu zeU zcN zcO zbC zbu zag zaM za4 delAll effD St.effS zb6 zaF zat zb7 zaG zav zbq zau zam zbr zb5 za1 zbm zaO zbl zai mkD zbi zbb zbf zag zbT D.ids Op.operands Call.operands zbc makeIfD makeFuncD typeAssertD zff zcX zcY zfb zbN IntKind.bits zcx List.take_of_length_le List.range_succ
attribute [local irreducible] V G H HD HD2 HD4 zgw RetX za3 Eff CallP CallV EndOK Fun Ret FinOK LoopI LoopW EndW
theorem znc : zml Tryz.prog 86 9 = some u8T := by kernel_rfl
theorem znk (l s : W8) (i j nx : Nat) (hi : i < nx) (hj : j < nx) (hij : i ≠ j) (hlen : l.length + s.length <= 140737488355328) :
  RetX Tryz.prog 49 [.ptr i 0, .u (.str s)] [(i, .box [.ptr i 0, .vec j l.length]), (j, .vec u8T 1 (zd7 l))] nx
   (fun r o n => r = .val (.tup [.u (.int .i64 s.length), .u (.oth .nilIface)]) /\ o = [(i, .box [.ptr i 0, .vec nx (l.length + s.length)]), (nx, .vec u8T 1 (zd7 (l ++ s)))] /\ n = nx + 1) := by
 have hne := zbo hi;have hne2 := zbo hj;have hcp := fun nx' (h : nx <= nx') => zpI i nx' (by omega) (.vec j l.length);have hbi := znc;have hca : zae Tryz.prog 83 = true := by kernel_rfl
 have hbl := zom l;rw [show zd7 (l ++ s) = rowsD (zeP l ++ zeP s) by rw [zd7, zon]]
 (refine RetX.of_bodyW Tryz.func49 rfl (by simp) fun Γ hn hpan => ?_); simp only [entry, List.zipIdx_cons, List.zipIdx_nil, List.map_cons, List.map_nil, Nat.zero_add, Tryz.ntmps49]
 repeat' (first
  | (refine zlC ?_; simp [zgp, hne, hne2, hij, Ne.symm hij, del, hbi, hbl, hlen])
  | (refine zif ?_; simp [hne, hne2, hij, Ne.symm hij, del, hbi, hbl, hlen])
  | (refine zmv ?_; simp [hne, hne2, hij, Ne.symm hij, del, hbi, hbl, hlen])
  | (refine zid ?_; simp [hne, hne2, hij, Ne.symm hij, del, hbi, hbl, hlen])
  | (refine zoq ?_; simp only [za3])
  | (refine CallP.ok1 (hcp _ (by first | omega | (simp; done) | (simp; omega) | fail)) (by first | (simp [hne, hne2, hij, Ne.symm hij, del, hbi, hbl, hlen, zaa, getK, zab, zac]; done) | fail) (by rfl) (by first | assumption | (simp; done) | fail) (by rfl) (by simp) ?_; (try simp [hne, hne2, hij, Ne.symm hij, del, hbi, hbl, hlen]))
  | fail)
 (refine EndW.here ?_; (first | (refine EndOK.fin (.inr rfl) ?_) | (refine EndOK.fin (.inl rfl) ?_)); simp [zdT, zas, Tryz.results49, hne, hne2, hi, hj, hij, Ne.symm hij]; refine FinOK.cut [(i, .box [.ptr i 0, .vec nx (l.length + s.length)]), (nx, .vec u8T 1 (rowsD (zeP l) ++ rowsD (zeP s)))] (nx + 1) (by simp [zaa, getK, zab, zac, Ob.under, D.under, zal, zar, hne, hne2, hi, hj, hij, Ne.symm hij] <;> omega) (by simp [D.under]) (by simp [hn]) ?_; try simp)
theorem zow (s : W8) (i nx : Nat) (hi : i < nx) (hlen : s.length <= 140737488355328) :
  RetX Tryz.prog 49 [.ptr i 0, .u (.str s)] [(i, .nw bT)] nx
   (fun r o n => r = .val (.tup [.u (.int .i64 s.length), .u (.oth .nilIface)]) /\ o = [(i, .box [.ptr i 0, .vec (nx + 1) s.length]), (nx + 1, .vec u8T 1 (zd7 s))] /\ n = nx + 2) := by
 have hne := zbo hi;have hcp := fun nx' (h : nx <= nx') => zrg i nx' (by omega);have hbi := znc;have hca : zae Tryz.prog 83 = true := by kernel_rfl
 (refine RetX.of_bodyW Tryz.func49 rfl (by simp) fun Γ hn hpan => ?_); simp only [entry, List.zipIdx_cons, List.zipIdx_nil, List.map_cons, List.map_nil, Nat.zero_add, Tryz.ntmps49]
 repeat' (first
  | (refine zlC ?_; simp [zgp, hne, del, hbi, hlen])
  | (refine zif ?_; simp [hne, del, hbi, hlen])
  | (refine zmv ?_; simp [hne, del, hbi, hlen])
  | (refine zid ?_; simp [hne, del, hbi, hlen])
  | (refine zoq ?_; simp only [za3])
  | (refine CallP.okL (hcp _ (by first | omega | (simp; done) | (simp; omega) | fail)) (by first | (simp [hne, del, hbi, hlen, zaa, getK, zab, zac, zad, zai, del]; done) | fail) (by rfl) (by first | assumption | (simp; done) | fail) (by rfl) (by simp) ?_; (try simp [hne, del, hbi, hlen, zdP, del]))
  | fail)
 (refine EndW.here ?_; (first | (refine EndOK.fin (.inr rfl) ?_) | (refine EndOK.fin (.inl rfl) ?_)); simp [zdT, zas, Tryz.results49, hne, hi]; refine FinOK.cut [(i, .box [.ptr i 0, .vec (nx + 1) s.length]), (nx + 1, .vec u8T 1 (zd7 s))] (nx + 2) (by simp [zaa, getK, zab, zac, Ob.under, D.under, zal, zar, hne, hi] <;> omega) (by simp [D.under]) (by simp [hn]) ?_; try simp)
end Go.Proofs.YtkdhmbhbbciedaaGreatDoor
namespace Go.Proofs.YtkdhmbhbbciedaaGreatDoor
open Go Go.VL
attribute [local simp] HS za2 zcH zbP evPure opd uOf zaq St.put St.at getK binD binI binS binB nilD aggD ze4 zfg lookD lookR zbM rangeS Go.VL.nextD Go.VL.nextS zbR zfi zfh zeD zb0 mkV zaX zaE zaD zaC zcG zaA zaP za5 mapEff zdm zeo Key.kk shiftI arith unD convD zda loadD cellsAt fieldAddrD fieldD indexAddrD indexSlD arrAddr indexD sliceD cutD lenD minmaxD nilCheckD buildD fillD zbv zcI zec setAll zcA zd1 zbK zeT zbJ St.add zak zbd rowsOf zcU zcb zad zac zaa zaW zcy zaH entry zah zaj valD zbW zcu zeU zcN zcO zbC zbu zag zaM za4 delAll effD St.effS zb6 zaF zat zb7 zaG zav zbq zau zam zbr zb5 za1 zbm zaO zbl zai mkD zbi zbb zbf zag zbT D.ids Op.operands Call.operands zbc makeIfD makeFuncD typeAssertD zff zcX zcY zfb zbN IntKind.bits zcx List.take_of_length_le List.range_succ
attribute [local irreducible] V G H HD HD2 HD4 zgw RetX za3 Eff CallP CallV EndOK Fun Ret FinOK LoopI LoopW EndW
theorem zqS (l : Code) (hll : l.length <= 1000000) (hr : zb8 l = true) : RetX Tryz.prog 19 [.u (Vm.inss l)] [] 0 (fun r o n => r = .val (.u (.str (zdu l)))) := by
 have hri := zeO l hll;rw [hr] at hri;have hit := fun i x (h : l[i]? = some x) => ziK hr h;simp only [Vm.inss] at hri ⊢
 (refine RetX.of_bodyW Tryz.func19 rfl (by simp) fun Γ hn hpan => ?_); simp only [entry, List.zipIdx_cons, List.zipIdx_nil, List.map_cons, List.map_nil, Nat.zero_add, Tryz.ntmps19]
 repeat' (first
  | (refine zrU (by first | (simp; done) | fail) (by simp) ?_; simp)
  | (refine zif ?_; simp)
  | (refine zmv ?_; simp)
  | (refine zid ?_; simp)
  | (refine zp6 ?_; simp)
  | (refine zrJ ?_; simp)
  | (refine zlx ?_; simp only [za3])
  | (refine CallP.fun_ (hri) (by first | rfl | fail) (by first | assumption | (simp; done) | fail) (by first | (simp; done) | (simp; rfl) | fail) (by first | (simp; done) | fail) (fun d hd => ?_); subst hd; (try simp))
  | fail)
 refine zdz (α := { i : Nat // i <= l.length }) [3, 9, 10] (fun i => [(11, .u (.int .i64 i.1))]) (fun i => zl1 (zdu (l.take i.1)) i.1) 2 (fun i => l.length - i.1) ⟨0, by omega⟩ ?_ ?_
 ·simp only [zl1, if_pos];exact (Wk.cut rfl (by simp [hn, St.lp]) (by simp [wkO, St.lp, zaa, getK, Ob.under, D.under, zal, zar]) (by simp [wkU, St.lp, zaY, zaa, getK, D.under]) (by simp [wkE, St.lp, zaY, zaa, getK] <;> (try (intros; simp_all; done)) <;> (try (intros; omega)) <;> (try grind)))
 rintro ⟨i, hi⟩;simp [St.lp, St.only, zaY, zaa, getK];rcases hx : l[i]? with _ | x
 ·have hge : l.length <= i := by simpa using hx
  obtain rfl : i = l.length := by omega
  have hne : ¬ l.length = 0 := by
   simp only [zb8, Bool.and_eq_true, decide_eq_true_eq] at hr;omega
  have hll2 := zjE hr l.length (Nat.le_refl _);simp only [List.take_length] at hll2 ⊢;have hnz : zdu l ≠ [] := fun e => by
   cases l with
   | nil => exact hne rfl
   | cons x r => simp [zdu, zfr] at e
  have hst := fun nx (h : 2 <= nx) => znp 0 1 nx (by omega) (by omega) (by decide) (zdu l) hnz;have hca : zae Tryz.prog 51 = true := by kernel_rfl
  simp only [zl1, if_neg hne];generalize zdu l = T at *
  repeat' (first
  | (refine zif ?_; simp [hx, hca])
  | (refine zmv ?_; simp [hx, hca])
  | (refine zid ?_; simp [hx, hca])
  | (refine zoq ?_; simp only [za3])
  | (refine zqa ?_; simp [za3])
  | (refine CallP.okL (hst _ (by first | omega | (simp; done) | (simp; omega) | fail)) (by first | (simp [hx, hca, zaa, getK, zab, zac, zad, zai, del]; done) | fail) (by rfl) (by first | assumption | (simp; done) | fail) (by rfl) (by simp) ?_; (try simp [hx, hca, zdP, del]))
  | fail)
  (refine EndW.here ?_; (first | (refine EndOK.fin (.inr rfl) ?_) | (refine EndOK.fin (.inl rfl) ?_)); simp [zdT, zas, Tryz.results19]; refine FinOK.cut [] (2) (by simp [zaa, getK, zab, zac, Ob.under, D.under, zal, zar] <;> omega) (by simp [D.under]) (by simp [hn]) ?_; try simp)
 ·have hlt : i < l.length := (List.getElem?_eq_some_iff.1 hx).1;have hxe : l[i]'hlt = x := (List.getElem?_eq_some_iff.1 hx).2;obtain ⟨o0, o1, o2, o3, o4⟩ := hit i x hx;have hli := zqT x o0 o1 (by omega) (by omega) (by omega);have hca : zae Tryz.prog 49 = true := by kernel_rfl
  have hl1 := zjE hr i hi;have hl2 := zmR x (hit i x hx);have htk := zkW hx;by_cases h0 : i = 0
  ·subst h0;have hn0 : ¬ l = [] := fun e => by rw [e] at hx; cases hx
   have hwr := fun nx (h : 2 <= nx) => zow (zfr x) 0 nx (by omega) (by omega);simp only [zl1, if_pos]
   repeat' (first
  | (refine zif ?_; simp [hx, hca, hxe, hn0])
  | (refine zmv ?_; simp [hx, hca, hxe, hn0])
  | (refine zid ?_; simp [hx, hca, hxe, hn0])
  | (refine zlw ?_; simp [hx, hca, hxe, hn0])
  | (refine zlx ?_; simp only [za3])
  | (intro hc <;> (try (exfalso; omega)))
  | (refine CallP.fun_ (hli) (by first | rfl | fail) (by first | assumption | (simp; done) | fail) (by first | (simp [hx, hca, hxe, hn0]; done) | (simp [hx, hca, hxe, hn0]; rfl) | fail) (by first | (simp; done) | fail) (fun d hd => ?_); subst hd; (try simp [hx, hca, hxe, hn0]))
  | (refine CallP.okL (hwr _ (by first | omega | (simp; done) | (simp; omega) | fail)) (by first | (simp [hx, hca, hxe, hn0, zaa, getK, zab, zac, zad, zai, del]; done) | fail) (by rfl) (by first | assumption | (simp; done) | fail) (by rfl) (by simp) ?_; (try simp [hx, hca, hxe, hn0, zdP, del]))
  | fail)
   refine LoopW.next ⟨1, by omega⟩ (by simp; omega) ?_
   have e1 : zdu (l.take 1) = zfr x := by rw [htk]; simp [zdu]
   simp only [zl1, e1, if_neg (show ¬ (1 : Nat) = 0 by decide)];exact (Wk.ren ((fun x => if x = 1 then 4 else x)) rfl (by first | (simp [hn]; done) | (intro i hi; rw [hn] at hi; constructor <;> (try simp) <;> (try (intro _)) <;> omega)) (by simp [zgu, St.lp, zaY, zaa, getK, zac, zad, D.under, D.le, D.ren] <;> (try (intros; simp_all; done)) <;> (try omega)) (by simp [wkR, St.lp, zaa, getK, zac, zad, obR, leU, zbn, zaN, Ob.under, D.under, D.le, D.ren] <;> (try (intros; simp_all; done)) <;> (try omega)) (by simp))
  ·have hwr := fun nx (h : 2 <= nx) => znk (zdu (l.take i)) (zfr x) 0 1 nx (by omega) (by omega) (by decide) (by omega);simp only [zl1, if_neg h0]
   repeat' (first
  | (refine zif ?_; simp [hx, hca, hxe])
  | (refine zmv ?_; simp [hx, hca, hxe])
  | (refine ⟨by omega, ?_⟩)
  | (refine zid ?_; simp [hx, hca, hxe])
  | (refine zlw ?_; simp [hx, hca, hxe])
  | (refine zlx ?_; simp only [za3])
  | (refine ⟨?_, by omega⟩)
  | (intro hc <;> (try (exfalso; omega)))
  | (refine CallP.fun_ (hli) (by first | rfl | fail) (by first | assumption | (simp; done) | fail) (by first | (simp [hx, hca, hxe]; done) | (simp [hx, hca, hxe]; rfl) | fail) (by first | (simp; done) | fail) (fun d hd => ?_); subst hd; (try simp [hx, hca, hxe]))
  | (refine CallP.okL (hwr _ (by first | omega | (simp; done) | (simp; omega) | fail)) (by first | (simp [hx, hca, hxe, zaa, getK, zab, zac, zad, zai, del]; done) | fail) (by rfl) (by first | assumption | (simp; done) | fail) (by rfl) (by simp) ?_; (try simp [hx, hca, hxe, zdP, del]))
  | fail)
   refine LoopW.next ⟨i + 1, by omega⟩ (by simp; omega) ?_
   simp only [zl1, htk, List.length_append, if_neg (show ¬ i + 1 = 0 by omega)];exact (Wk.ren ((fun x => if x = 1 then 3 else x)) rfl (by first | (simp [hn]; done) | (intro i hi; rw [hn] at hi; constructor <;> (try simp) <;> (try (intro _)) <;> omega)) (by simp [zgu, St.lp, zaY, zaa, getK, zac, zad, D.under, D.le, D.ren] <;> (try (intros; simp_all; done)) <;> (try omega)) (by simp [wkR, St.lp, zaa, getK, zac, zad, obR, leU, zbn, zaN, Ob.under, D.under, D.le, D.ren] <;> (try (intros; simp_all; done)) <;> (try omega)) (by simp))
def zfq (l : Code) : List UInt8 := if zb8 l = true then zdu l else []
theorem zmQ (l : Code) (hll : l.length <= 1000000) : Fun Tryz.prog 19 [.u (Vm.inss l)] (· = .u (.str (zfq l))) := by
 cases hb : zb8 l with
 | true =>
  unfold Fun;exact (zqS l hll hb).ret (fun d o n h => by
   cases h;exact ⟨by simp [za7], by simp [zfq, hb]⟩) (fun ch o n h => by cases h)
 | false =>
  have hri := zeO l hll;rw [hb] at hri;have hp : zfq l = [] := by unfold zfq; rw [if_neg (by simp [hb])]
  rw [hp];simp only [Vm.inss] at hri ⊢
  (refine Fun.of_body Tryz.func19 rfl (by simp) fun Γ hn => ?_); simp only [entry, List.zipIdx_cons, List.zipIdx_nil, List.map_cons, List.map_nil, Nat.zero_add, Tryz.ntmps19]
  repeat' (first
  | (refine zif ?_; simp)
  | (refine zmv ?_; simp)
  | (refine zid ?_; simp)
  | (refine zp6 ?_; simp)
  | (refine zoq ?_; simp only [za3])
  | (refine CallP.fun_ (hri) (by first | rfl | fail) (by first | assumption | (simp; done) | fail) (by first | (simp; done) | (simp; rfl) | fail) (by first | (simp; done) | fail) (fun d hd => ?_); subst hd; (try simp))
  | fail)
  (refine EndOK.val (.inr rfl) ?_; simp [zdT, zas, za7, Tryz.results19])
end Go.Proofs.YtkdhmbhbbciedaaGreatDoor
namespace Go.Proofs.YtkdhmbhbbciedaaGreatDoor
open Go Go.VL
attribute [local simp] HS za2 zcH zbP evPure opd uOf zaq St.put St.at getK binD binI binS binB nilD aggD ze4 zfg lookD lookR zbM rangeS Go.VL.nextD Go.VL.nextS zbR zfi zfh zeD zb0 mkV zaX zaE zaD zaC zcG zaA zaP za5 mapEff zdm zeo Key.kk shiftI arith unD convD zda loadD cellsAt fieldAddrD fieldD indexAddrD indexSlD arrAddr indexD sliceD cutD lenD minmaxD nilCheckD buildD fillD zbv zcI zec setAll zcA zd1 zbK zeT zbJ St.add zak zbd rowsOf zcU zcb zad zac zaa zaW zcy zaH entry zah zaj valD zbW zcu zeU zcN zcO zbC zbu zag zaM za4 delAll effD St.effS zb6 zaF zat zb7 zaG zav zbq zau zam zbr zb5 za1 zbm zaO zbl zai mkD zbi zbb zbf zag zbT D.ids Op.operands Call.operands zbc makeIfD makeFuncD typeAssertD zff zcX zcY zfb zbN IntKind.bits zcx List.take_of_length_le List.range_succ zcm zbF zcn zch zba zbw zby zci zbA zaU zbz zbx zfO zbE zck zaK zaw zcl zaL zay zbD zax zap zcq zcr zfN zab frzN frz1 zaR zaQ St.frz St.frzS frzS fv zbQ zb2 zb3 zaS zaz zan frz zcd zbU zbY zbZ za6 St.norm St.lp St.only zaY wkE wkO wkU Ob.under D.under zal zar zco zbG zcp h4s zdT zas za7 List.zipIdx_cons List.zipIdx_nil List.map_cons List.map_nil Nat.zero_add
attribute [local irreducible] V G H HD HD2 HD4 zgw RetX za3 Eff CallP CallV EndOK Fun Ret FinOK LoopI LoopW EndW HR vs2 RN Cnd H4
theorem zth (l : Let) : Fun Tryz.prog 33 (zsF l :: [].map .u) (· = .u (.bool (!za0 12 l.body))) := by
 have h1 := zeq l.body;simp only [zsF, List.map_nil, zcC] at h1 ⊢;refine Fun.run Tryz.func33 Tryz.ntmps33 Tryz.results33 rfl (by simp) fun Γ hn => ?_
 repeat' (first
  | (refine zaf rfl ?_; simp)
  | (refine CallP.f2 rfl (h1) (by first | simp <;> rfl | fail) ?_; simp)
  | fail)
 (refine Pst.of ?_; simp)
theorem ze6 (lets : List Let) (e : Exp) : Fun Tryz.prog 12 [.u (zaB lets), zcC e] (· = .tup [.u (Vm.inss (zcZ lets e).1), .u (.int .i64 (zcZ lets e).2)]) := by
 have h1 := zeq e;have h2 := zgl lets 33 [] _ (fun x _ => zth x) (by simp) (fun _ => rfl) (fun _ => rfl);simp only [List.map_nil, zaB, zcC] at h1 h2;by_cases hra : zbh lets e = true
 case neg =>
  have hcp : zcZ lets e = ([], 1) := by unfold zcZ; rw [if_neg hra]
  rw [hcp];unfold zbh at hra;generalize za0 12 e = x1 at *;generalize (lets.any fun l => !za0 12 l.body) = x2 at *;simp only [zaB, zcC, Vm.inss];refine Fun.runW Tryz.func12 Tryz.ntmps12 rfl (by simp) fun Γ hn => ?_
  repeat' (first
  | (refine Cnd.of (fun hc => ?_) (fun hc => ?_) <;> (try (exfalso; omega)) <;> (try simp))
  | (refine zaf rfl ?_; simp)
  | ((first | refine CallP.f2 rfl (h1) (by first | simp <;> rfl | fail) ?_ | refine CallP.f2 rfl (h2) (by first | simp <;> rfl | fail) ?_ | fail); simp)
  | fail)
  all_goals first
   | (refine EndW.norm (EndW.here ?_); (refine EndOK.val (.inr rfl) ?_; simp [Tryz.results12]); done)
   | (exfalso; apply hra; simp_all; done)
   | (exfalso; apply hra; simp_all; omega)
 obtain ⟨r1, r2, r3⟩ := zeI hra;have r4 : (lets.any fun l => !za0 12 l.body) = false := by
  rw [List.any_eq_false];intro l hl;simp [r3 l hl]
 rw [r2] at h1;rw [r4] at h2;have r1' : ¬ (20 : Int) < lets.length := by omega
 have hL := zfx (lets := lets) (n := lets.length) (Nat.le_refl _);have a1 := zsQ r3 r1 1 lets.length (Nat.le_refl _) 12 (by omega) e r2 [] 3 4 (by omega) (by omega) (by omega) (by simp);have hcl : zcZ lets e = if 2000 <= (zen lets e).length then ([], 6) else (zen lets e ++ [⟨14, 0, []⟩], 0) := by unfold zcZ; rw [if_pos hra]
 rw [hcl];have hcc : zev (nmC lets (shF lets) lets.length) (shF lets lets.length) e [] = zen lets e := rfl;have hcap : (zen lets e).length <= 2001 := zgg (zhM lets.length) e [] (by simp);rw [hcc] at a1;generalize zen lets e = L at *;have a2 := zrb (zaB lets) (zaI (zdE lets lets.length)) L;have e1 := zeR L;have e2 := zhX L;have e3 := ze1 L;have a3 := zf6 lets (zdE lets lets.length) L ⟨14, 0, []⟩ 1 4 5 (by omega) (by omega) (by omega) (by omega);have htk : List.take lets.length ((zdE lets lets.length).map fun b => [U.bool b]) = (zdE lets lets.length).map fun b => [U.bool b] := by
  exact List.take_of_length_le (by simp [hL])
 have hpL : zb4 L ⟨14, 0, []⟩ = if 2000 <= L.length then zb4 L ⟨14, 0, []⟩ else L ++ [⟨14, 0, []⟩] := by
  split
  ·rfl
  ·unfold zb4; rw [if_pos (by omega)]
 by_cases hf : 2000 <= L.length
 ·rw [if_pos hf];have hf2 : (decide (2000 <= L.length)) = true := by simpa using hf
  rw [hf2] at a2;simp only [zaB, zcC, Vm.inss, zaI] at a1 a2 ⊢;refine Fun.runW Tryz.func12 Tryz.ntmps12 rfl (by simp) fun Γ hn => ?_
  repeat' (first
  | (refine zaf rfl ?_; simp [r1'])
  | ((first | refine CallP.f2 rfl (h1) (by first | simp [r1'] <;> rfl | fail) ?_ | refine CallP.f2 rfl (h2) (by first | simp [r1'] <;> rfl | fail) ?_ | fail); simp [r1'])
  | fail)
  refine zov _ (Wk.ownC 1 _ 1 4 1 (by decide) rfl rfl) ?_;simp [St.ownC];refine zov _ (Wk.ownC 1 _ 2 44 3 (by decide) rfl rfl) ?_;simp [St.ownC];refine zdz (α := { i : Nat // i <= lets.length }) [0, 3, 7, 26, 27] (fun i => [(28, .u (.int .i64 i.1))])
   (fun i => [(0, .box [.u (.int .i64 e.op), .u (.int .i64 e.n), .u (.int .i64 e.unit), .u (.str e.s), .u (.sl (e.args.map Exp.row))]), (1, .box [.u (.sl (lets.map fun l => [.str l.name, .int .i64 l.body.op, .int .i64 l.body.n, .int .i64 l.body.unit, .str l.body.s, .sl (l.body.args.map Exp.row)])), .vec 2 i.1, .vec 3 0]), (2, .vec 4 1 (zcj (zdE lets i.1))), (3, kOb [])]) 4 (fun i => lets.length - i.1) ⟨0, by omega⟩ ?_ ?_
  ·exact (Wk.zem (by simp [hn, zdE, zcj, kOb, zdF] <;> grind))
  rintro ⟨i, hi⟩;simp;by_cases hil : i < lets.length
  case pos =>
   have hx : lets[i]? = some lets[i] := List.getElem?_eq_getElem hil;have hsl := zfx (lets := lets) (n := i) (by omega);have h5 := zdA lets (zdE lets i) (.sl []) i (by omega) (by omega) (by omega) 12 _ (r3 _ (List.mem_of_getElem? hx));have hsucc : zdE lets (i + 1) = zdE lets i ++ [zcv (nmS lets (zdE lets i) i) (lets[i]).body] := by
    rw [zdE, hx];simp only;rw [show nmS lets (zdE lets i) i = sF (mOf [] (lets.take i)) from funext fun s => zmK (by omega) (Nat.le_refl _) s]
   have hp := zhF (zdE lets (i + 1));have hss : zcj (zdE lets (i + 1)) = zcj (zdE lets (i + 1)) := rfl
   conv at hss => rhs; rw [hsucc]
   rw [hsucc] at hp;generalize zcv (nmS lets (zdE lets i) i) (lets[i]).body = b at *;generalize lets[i] = l at *;have hb1 := ze8 (zdE lets i);have hb2 := zjc (zdE lets i);rw [hsl] at hb2;have hb3 : (zcj (zdE lets i)).length = i := by simp [zcj, hsl]
   have hb4 := zjd (zdE lets i);have hb5 : zcj (zdE lets i ++ [b]) = zcj (zdE lets i) ++ [[.u (.bool b)]] := by simp [zcj]
   rw [hb5] at hp hss;clear hsucc hb5;generalize zcj (zdE lets i) = R at *;simp only [zcC, zaB, zaI] at h5
   repeat' (first
  | (refine Cnd.of (fun hc => ?_) (fun hc => ?_) <;> (try (exfalso; omega)) <;> (try simp [hx, hb1, hb2, hb3, hb4, kOb, zdF]))
  | (refine zaf rfl ?_; simp [hx, hb1, hb2, hb3, hb4, kOb, zdF])
  | (refine And.intro (by omega) ?_)
  | (refine ⟨hC _ (by kernel_rfl), hk _ (zdb 8 _ _ _ ?_)⟩; clear hC hk C k; simp [hx, hb1, hb2, hb3, hb4, kOb, zdF])
  | (refine zdX rfl (by kernel_rfl) (by first | (simp [hn]; done) | (simp [hn]; omega) | fail) fun C k hC hk => ?_; simp [hx, hb1, hb2, hb3, hb4, kOb, zdF])
  | (refine zb9 rfl ?_; simp [hx, hb1, hb2, hb3, hb4, kOb, zdF])
  | (refine zcg rfl ?_; simp [hx, hb1, hb2, hb3, hb4, kOb, zdF])
  | (refine CallV.f2 rfl (h5) (by first | simp [hx, hb1, hb2, hb3, hb4, kOb, zdF] <;> rfl | fail) ?_; simp [hx, hb1, hb2, hb3, hb4, kOb, zdF])
  | fail)
   refine LoopW.next ⟨i + 1, by omega⟩ (by simp; omega) ?_
   exact (Wk.ren ((fun j => if j = 2 then 6 else j)) rfl (by first | (simp [hn]; done) | (intro i hi; rw [hn] at hi; constructor <;> (try simp) <;> (try (intro _)) <;> omega)) (by simp [zgu, St.lp, zaY, zaa, getK, zac, zad, D.under, D.le, D.ren, hss, hp, kOb, zdF] <;> (try (intros; simp_all; done)) <;> (try omega)) (by simp [wkR, St.lp, zaa, getK, zac, zad, obR, leU, zbn, zaN, Ob.under, D.under, D.le, D.ren, hss, hp, kOb, zdF] <;> (try (intros; simp_all; done)) <;> (try omega)) (by simp [hss, hp, kOb, zdF]))
  obtain rfl : i = lets.length := by omega
  refine zov _ (Wk.frz (e := 4) (sz := 1) 2 [1] (us := (zdE lets lets.length).map fun b => [U.bool b]) (by simp [zaa]) (ze8 _)) ?_;simp [St.frz, St.frzS, frzS, fv, zbQ, zaS, del, hL, htk]
  repeat' (first
  | (refine zaf rfl ?_; simp [kOb, cOb, zaB, zaI, e1, e2, e3])
  | (refine CallP.f2 rfl (a2) (by first | simp [kOb, cOb, zaB, zaI, e1, e2, e3] <;> rfl | fail) ?_; simp [kOb, cOb, zaB, zaI, e1, e2, e3])
  | (refine CallP.okL (a1) (by first | (simp [kOb, cOb, zaB, zaI, e1, e2, e3, zaa, getK, zab, zac, zad, zai, del]; done) | fail) (by rfl) (by first | assumption | (simp; done) | fail) (by rfl) (by simp) ?_; (try simp [kOb, cOb, zaB, zaI, e1, e2, e3, zdP, del]))
  | fail)
  refine EndW.norm (EndW.here ?_)
  (refine EndOK.val (.inr rfl) ?_; simp [Tryz.results12])
 ·rw [if_neg hf];have hf2 : (decide (2000 <= L.length)) = false := by simpa using hf
  rw [hf2] at a2;rw [hpL, if_neg hf] at a3;have g1 := zeR (L ++ [⟨14, 0, []⟩]);simp only [zaB, zcC, Vm.inss, zaI] at a1 a2 a3 ⊢;refine Fun.runW Tryz.func12 Tryz.ntmps12 rfl (by simp) fun Γ hn => ?_
  repeat' (first
  | (refine zaf rfl ?_; simp [r1'])
  | ((first | refine CallP.f2 rfl (h1) (by first | simp [r1'] <;> rfl | fail) ?_ | refine CallP.f2 rfl (h2) (by first | simp [r1'] <;> rfl | fail) ?_ | fail); simp [r1'])
  | fail)
  refine zov _ (Wk.ownC 1 _ 1 4 1 (by decide) rfl rfl) ?_;simp [St.ownC];refine zov _ (Wk.ownC 1 _ 2 44 3 (by decide) rfl rfl) ?_;simp [St.ownC];refine zdz (α := { i : Nat // i <= lets.length }) [0, 3, 7, 26, 27] (fun i => [(28, .u (.int .i64 i.1))])
   (fun i => [(0, .box [.u (.int .i64 e.op), .u (.int .i64 e.n), .u (.int .i64 e.unit), .u (.str e.s), .u (.sl (e.args.map Exp.row))]), (1, .box [.u (.sl (lets.map fun l => [.str l.name, .int .i64 l.body.op, .int .i64 l.body.n, .int .i64 l.body.unit, .str l.body.s, .sl (l.body.args.map Exp.row)])), .vec 2 i.1, .vec 3 0]), (2, .vec 4 1 (zcj (zdE lets i.1))), (3, kOb [])]) 4 (fun i => lets.length - i.1) ⟨0, by omega⟩ ?_ ?_
  ·exact (Wk.zem (by simp [hn, zdE, zcj, kOb, zdF] <;> grind))
  rintro ⟨i, hi⟩;simp;by_cases hil : i < lets.length
  case pos =>
   have hx : lets[i]? = some lets[i] := List.getElem?_eq_getElem hil;have hsl := zfx (lets := lets) (n := i) (by omega);have h5 := zdA lets (zdE lets i) (.sl []) i (by omega) (by omega) (by omega) 12 _ (r3 _ (List.mem_of_getElem? hx));have hsucc : zdE lets (i + 1) = zdE lets i ++ [zcv (nmS lets (zdE lets i) i) (lets[i]).body] := by
    rw [zdE, hx];simp only;rw [show nmS lets (zdE lets i) i = sF (mOf [] (lets.take i)) from funext fun s => zmK (by omega) (Nat.le_refl _) s]
   have hp := zhF (zdE lets (i + 1));have hss : zcj (zdE lets (i + 1)) = zcj (zdE lets (i + 1)) := rfl
   conv at hss => rhs; rw [hsucc]
   rw [hsucc] at hp;generalize zcv (nmS lets (zdE lets i) i) (lets[i]).body = b at *;generalize lets[i] = l at *;have hb1 := ze8 (zdE lets i);have hb2 := zjc (zdE lets i);rw [hsl] at hb2;have hb3 : (zcj (zdE lets i)).length = i := by simp [zcj, hsl]
   have hb4 := zjd (zdE lets i);have hb5 : zcj (zdE lets i ++ [b]) = zcj (zdE lets i) ++ [[.u (.bool b)]] := by simp [zcj]
   rw [hb5] at hp hss;clear hsucc hb5;generalize zcj (zdE lets i) = R at *;simp only [zcC, zaB, zaI] at h5
   repeat' (first
  | (refine Cnd.of (fun hc => ?_) (fun hc => ?_) <;> (try (exfalso; omega)) <;> (try simp [hx, hb1, hb2, hb3, hb4, kOb, zdF]))
  | (refine zaf rfl ?_; simp [hx, hb1, hb2, hb3, hb4, kOb, zdF])
  | (refine And.intro (by omega) ?_)
  | (refine ⟨hC _ (by kernel_rfl), hk _ (zdb 8 _ _ _ ?_)⟩; clear hC hk C k; simp [hx, hb1, hb2, hb3, hb4, kOb, zdF])
  | (refine zdX rfl (by kernel_rfl) (by first | (simp [hn]; done) | (simp [hn]; omega) | fail) fun C k hC hk => ?_; simp [hx, hb1, hb2, hb3, hb4, kOb, zdF])
  | (refine zb9 rfl ?_; simp [hx, hb1, hb2, hb3, hb4, kOb, zdF])
  | (refine zcg rfl ?_; simp [hx, hb1, hb2, hb3, hb4, kOb, zdF])
  | (refine CallV.f2 rfl (h5) (by first | simp [hx, hb1, hb2, hb3, hb4, kOb, zdF] <;> rfl | fail) ?_; simp [hx, hb1, hb2, hb3, hb4, kOb, zdF])
  | fail)
   refine LoopW.next ⟨i + 1, by omega⟩ (by simp; omega) ?_
   exact (Wk.ren ((fun j => if j = 2 then 6 else j)) rfl (by first | (simp [hn]; done) | (intro i hi; rw [hn] at hi; constructor <;> (try simp) <;> (try (intro _)) <;> omega)) (by simp [zgu, St.lp, zaY, zaa, getK, zac, zad, D.under, D.le, D.ren, hss, hp, kOb, zdF] <;> (try (intros; simp_all; done)) <;> (try omega)) (by simp [wkR, St.lp, zaa, getK, zac, zad, obR, leU, zbn, zaN, Ob.under, D.under, D.le, D.ren, hss, hp, kOb, zdF] <;> (try (intros; simp_all; done)) <;> (try omega)) (by simp [hss, hp, kOb, zdF]))
  obtain rfl : i = lets.length := by omega
  refine zov _ (Wk.frz (e := 4) (sz := 1) 2 [1] (us := (zdE lets lets.length).map fun b => [U.bool b]) (by simp [zaa]) (ze8 _)) ?_;simp [St.frz, St.frzS, frzS, fv, zbQ, zaS, del, hL, htk]
  repeat' (first
  | (refine zaf rfl ?_; simp [kOb, cOb, zaB, zaI, e1, e2, e3])
  | (refine CallP.f2 rfl (a2) (by first | simp [kOb, cOb, zaB, zaI, e1, e2, e3] <;> rfl | fail) ?_; simp [kOb, cOb, zaB, zaI, e1, e2, e3])
  | (refine CallP.okL (a1) (by first | (simp [kOb, cOb, zaB, zaI, e1, e2, e3, zaa, getK, zab, zac, zad, zai, del]; done) | fail) (by rfl) (by first | assumption | (simp; done) | fail) (by rfl) (by simp) ?_; (try simp [kOb, cOb, zaB, zaI, e1, e2, e3, zdP, del]))
  | (refine CallP.okL (a3) (by first | (simp [kOb, cOb, zaB, zaI, e1, e2, e3, zaa, getK, zab, zac, zad, zai, del]; done) | fail) (by rfl) (by first | assumption | (simp; done) | fail) (by rfl) (by simp) ?_; (try simp [kOb, cOb, zaB, zaI, e1, e2, e3, zdP, del]))
  | fail)
  refine EndW.wk _ (Wk.frz (e := 44) (sz := 3) 5 [1] (us := (L ++ [⟨14, 0, []⟩] : Code).map fun i => [U.int .i64 i.op, .int .i64 i.a, .str i.s]) (rows := zdF (L ++ [⟨14, 0, []⟩])) (by simp [zaa, zdF]) g1) ?_;simp [St.frz, St.frzS, frzS, fv, zbQ, zaS, del];refine EndW.norm (EndW.here ?_)
  (refine EndOK.val (.inr rfl) ?_; simp [Tryz.results12])
end Go.Proofs.YtkdhmbhbbciedaaGreatDoor
namespace Go.Proofs.YtkdhmbhbbciedaaGreatDoor
open Go Go.VL Go.Shelf Go.RowKit
attribute [local simp] HS za2 zcH zbP evPure opd uOf zaq St.put St.at getK binD binI binS binB nilD aggD ze4 zfg lookD lookR zbM rangeS Go.VL.nextD Go.VL.nextS zbR zfi zfh zeD zb0 mkV zaX zaE zaD zaC zcG zaA zaP za5 mapEff zdm zeo Key.kk shiftI arith unD convD zda loadD cellsAt fieldAddrD fieldD indexAddrD indexSlD arrAddr indexD sliceD cutD lenD minmaxD nilCheckD buildD fillD zbv zcI zec setAll zcA zd1 zbK zeT zbJ St.add zak zbd rowsOf zcU zcb zad zac zaa zaW zcy zaH entry zah zaj valD zbW zcu zeU zcN zcO zbC zbu zag zaM za4 delAll effD St.effS zb6 zaF zat zb7 zaG zav zbq zau zam zbr zb5 za1 zbm zaO zbl zai mkD zbi zbb zbf zag zbT D.ids Op.operands Call.operands zbc makeIfD makeFuncD typeAssertD zff zcX zcY zfb zbN IntKind.bits zcx List.take_of_length_le List.range_succ zcm zbF zcn zch zba zbw zby zci zbA zaU zbz zbx zfO zbE zck zaK zaw zcl zaL zay zbD zax zap zcq zcr zfN zab frzN frz1 zaR zaQ St.frz St.frzS frzS fv zbQ zb2 zb3 zaS zaz zan frz zcd zbU zbY zbZ za6 St.norm St.lp St.only zaY wkE wkO wkU Ob.under D.under zal zar zco zbG zcp h4s zdT zas za7 List.zipIdx_cons List.zipIdx_nil List.map_cons List.map_nil Nat.zero_add
attribute [local irreducible] V G H HD HD2 HD4 zgw RetX za3 Eff CallP CallV EndOK Fun Ret FinOK LoopI LoopW EndW HR vs2 RN Cnd H4
attribute [local simp] zts zuq zmr zur zms
theorem zqD (s : W8) (hl : s.length <= 900000) : RetX Tryz.prog 14 [.u (.str s)] [] 0
  (fun r o n => match r with | .val d => za7 d = true /\ d = .tup [.u (Vm.inss (zjt s).1), .u (.int .i64 (zjt s).2)] | .pan _ => False) := by
 have htl := zqr s;have h1 := zqs s (by omega);have h2 := zkp (zfQ s) 10;have hca : zae Tryz.prog 41 = true := by kernel_rfl
 have hLl : (zd6 s).length = (zbV 10 (zfQ s)).length := by simp [zd6]
 have hLn := ziN (c := 10) (zfQ s);have hL : ∀ (i : Nat) (t : W8), (zbV 10 (zfQ s))[i]? = some t -> (zd6 s)[i]? = some (zl3 t) /\ t.length <= 900000 := fun i t h => ⟨by simp [zd6, h], by
  have := ziO (c := 10) (zfQ s) t (List.mem_of_getElem? h);omega⟩
 have h3 := zeO (zd6 s) (by omega);have h4 := zmQ (zd6 s) (by omega);have hrb : zjt s = if zb8 (zd6 s) = true /\ zfq (zd6 s) = s then (zd6 s, 0) else ([], 2) := by
  unfold zjt zfq;by_cases hr : zb8 (zd6 s) = true
  ·simp [hr]
  ·simp [hr]
 have hit := znq 10 (zfQ s) (by omega);have e1 := zeR;have e3 := ze1;rw [hrb];generalize zd6 s = L at *;refine RetX.zrS Tryz.func14 Tryz.ntmps14 rfl (by simp) fun Γ hn hdfr hpan hesc => ?_; simp only [entry, List.zipIdx_cons, List.zipIdx_nil, List.map_cons, List.map_nil, Nat.zero_add];rw [zn0]
 repeat' (first
  | (refine zgr rfl ?_; simp)
  | fail)
 refine ztk ?_
 repeat' (first
  | (refine zgr rfl ?_; simp [hca])
  | (refine CallP.f2 rfl (h1) (by first | simp [hca] <;> rfl | fail) ?_; simp [hca])
  | (refine CallP.zvN (h2) (by rfl) (by first | assumption | simp) (by rfl) (by simp) ?_; rintro d o n' hn' ⟨rfl, rfl, rfl⟩; (try simp at hn'); (try simp [hca]))
  | fail)
 refine RangeOK.wk _ (Wk.ownC 0 _ 0 44 3 (by decide) rfl rfl) ?_;simp [St.ownC];refine RangeOK.of (zkB L) (fun i => i + 5) hesc hdfr rfl (by kernel_rfl) hit ?_ ?_ rfl (by simp) (by simp) ?_ ?_
 ·intro i j ob h;simp only [ziD, zaa, getK] at h;simp only [zkB, zaa, getK]
  grind
 ·intro i;simp only [ziD, zkB, zaa, getK, List.cons_append, List.nil_append, zdF, List.take_zero, List.map_nil]
  grind
 ·intro i x hx Γ1 r hn hpan1;rw [List.getElem?_map] at hx;obtain ⟨t, ht, rfl⟩ := Option.map_eq_some_iff.1 hx;obtain ⟨hLi, htl2⟩ := hL i t ht;have htk : zdF (L.take (i + 1)) = zdF (L.take i) ++ [[.u (.int .i64 (zl3 t).op), .u (.int .i64 (zl3 t).a), .u (.str (zl3 t).s)]] := by
   rw [List.take_add_one, hLi];simp [zdF]
  have hil : (zdF (L.take i)).length = i := by
   have := (List.getElem?_eq_some_iff.1 hLi).1;rw [ze1, List.length_take];omega
  have hib : i <= 900000 := by
   have := (List.getElem?_eq_some_iff.1 ht).1;omega
  have hlr := zhY (L.take i);have hpu := zbB (L.take i);clear hrb h1 h2 h3 h4 hit hesc hpan;generalize hRO : zkB L (i + 1) = RO;rw [zkB, htk] at hRO;rw [show zkB L i = [(0, .box [.vec (i + 4) i]), (i + 4, .vec 44 3 (zdF (L.take i)))] from rfl];generalize zdF (L.take i) = R at *;refine zsj hpan1 (by rfl) ?_;simp;intro Γ2 hn hpan2;have hcu := zsU t 32 (by omega);have hgw := zi4;have hpa : zsf Tryz.prog 76 = some 15 := by kernel_rfl
  have hwl : wordsL.length = 15 := rfl;obtain ⟨w, r, b, hcu2, hins, hrl⟩ := zsV t;rw [hcu2] at hcu;have hix := zi1 wordsL w;have hat := zrG r (by omega);simp only [zos] at hix;refine zsj hpan2 (by rfl) ?_;by_cases h1 : zjJ wordsL w 0 = 1
  ·rw [if_pos h1] at hins;rw [hins] at hRO;rw [h1] at hix;clear hins hcu2 htk hL e1 e3;simp
   repeat' (first
  | (refine And.intro (by omega) ?_)
  | ((first | refine CallP.f2 rfl (hcu) (by first | simp [hgw, hpa, hwl, hil] <;> rfl | fail) ?_ | refine CallP.f2 rfl (hix) (by first | simp [hgw, hpa, hwl, hil] <;> rfl | fail) ?_ | fail); simp [hgw, hpa, hwl, hil])
  | fail)
   refine ⟨{ n := 49, env := [], obs := RO, next := i + 1 + 5 }, ?_, rfl, rfl⟩;rw [<- hRO];exact (Wk.ren ((fun x => if x = i + 5 then i + 5 + 1 + 1 else x)) rfl (by first | (simp [hn]; done) | (intro i hi; rw [hn] at hi; constructor <;> (try simp) <;> (try (intro _)) <;> omega)) (by simp [zgu, St.lp, zaY, zaa, getK, zac, zad, D.under, D.le, D.ren, hpu, hil, hlr] <;> (try (intros; simp_all; done)) <;> (try omega)) (by simp [wkR, St.lp, zaa, getK, zac, zad, obR, leU, zbn, zaN, Ob.under, D.under, D.le, D.ren, hpu, hil, hlr] <;> (try (intros; simp_all; done)) <;> (try omega)) (by simp [hpu, hil, hlr]))
  ·rw [if_neg h1] at hins;rw [hins] at hRO;clear hins hcu2 htk hL e1 e3;generalize zjJ wordsL w 0 = op at *;generalize zlq r = av at *;simp
   repeat' (first
  | (refine CallP.fun_ (hat) (by first | rfl | fail) (by first | assumption | (simp; done) | fail) (by first | (simp; done) | (simp; rfl) | fail) (by first | (simp; done) | fail) (fun d hd => ?_); obtain ⟨b', rfl⟩ := hd; (try simp))
  | (refine And.intro (by omega) ?_)
  | ((first | refine CallP.f2 rfl (hcu) (by first | simp [hgw, hpa, hwl, hil, h1] <;> rfl | fail) ?_ | refine CallP.f2 rfl (hix) (by first | simp [hgw, hpa, hwl, hil, h1] <;> rfl | fail) ?_ | fail); simp [hgw, hpa, hwl, hil, h1])
  | fail)
   refine ⟨{ n := 49, env := [], obs := RO, next := i + 1 + 5 }, ?_, rfl, rfl⟩;rw [<- hRO];exact (Wk.ren ((fun x => if x = i + 5 then i + 5 + 1 + 1 else x)) rfl (by first | (simp [hn]; done) | (intro i hi; rw [hn] at hi; constructor <;> (try simp) <;> (try (intro _)) <;> omega)) (by simp [zgu, St.lp, zaY, zaa, getK, zac, zad, D.under, D.le, D.ren, hpu, hil, hlr] <;> (try (intros; simp_all; done)) <;> (try omega)) (by simp [wkR, St.lp, zaa, getK, zac, zad, obR, leU, zbn, zaN, Ob.under, D.under, D.le, D.ren, hpu, hil, hlr] <;> (try (intros; simp_all; done)) <;> (try omega)) (by simp [hpu, hil, hlr]))
 ·have hn00 : Γ.base.n0 = 0 := hn;intro Γ' hn hpan2;have hnL : (List.map (fun t => D.u (U.str t)) (zbV 10 (zfQ s))).length = L.length := by simp [hLl]
  rw [hnL] at hn ⊢;clear hpan hesc hit h1 h2 hL;have hR : zkB L L.length = [(0, .box [.vec (L.length + 4) L.length]), (L.length + 4, .vec 44 3 (zdF L))] := by simp [zkB]
  rw [hR];have hpR := zbB L;have hlR := zhY L;have hLs : L.length <= 900001 := by omega
  have htk : List.take L.length (L.map fun i => [U.int .i64 i.op, .int .i64 i.a, .str i.s]) = L.map fun i => [U.int .i64 i.op, .int .i64 i.a, .str i.s] := List.take_of_length_le (by simp);have g1 := e1 L;refine zov { n := 49, env := [(4, .ptr 0 0), (0, .u (.str s))], obs := [(0, .box [.vec (L.length + 4) L.length]), (L.length + 4, .vec 44 3 (zdF L))], next := L.length + 5 } (Wk.zem (by simp [hn, ziD] <;> grind)) ?_;refine zov _ (Wk.frz (e := 44) (sz := 3) (L.length + 4) [0] (us := L.map fun i => [U.int .i64 i.op, .int .i64 i.a, .str i.s]) (rows := zdF L) (by simp [zaa, getK]) g1) ?_;simp [St.frz, St.frzS, frzS, fv, zbQ, zaS, del, htk];simp only [Vm.inss] at h3 h4 ⊢;cases hri : zb8 L with
  | false =>
   rw [hri] at h3
   repeat' (first
  | (refine zgr rfl ?_; simp)
  | ((first | refine CallP.f2 rfl (h3) (by first | simp <;> rfl | fail) ?_ | refine CallP.f2 rfl (h4) (by first | simp <;> rfl | fail) ?_ | fail); simp)
  | fail)
   refine ⟨rfl, ?_⟩;refine EndW.norm (EndW.here ?_)
   (refine EndOK.fin (.inr rfl) ?_); simp [zdT, zas, Tryz.results14]; refine FinOK.here (by simp [hn00]) ?_; simp [za7]
  | true =>
   rw [hri] at h3;by_cases hli : zfq L = s
   ·rw [hli] at h4
    repeat' (first
  | (refine zgr rfl ?_; simp)
  | ((first | refine CallP.f2 rfl (h3) (by first | simp <;> rfl | fail) ?_ | refine CallP.f2 rfl (h4) (by first | simp <;> rfl | fail) ?_ | fail); simp)
  | fail)
    refine ⟨rfl, ?_⟩;refine EndW.norm (EndW.here ?_)
    (refine EndOK.fin (.inr rfl) ?_); simp [zdT, zas, Tryz.results14]; refine FinOK.here (by simp [hn00]) ?_; simp [za7]
    rw [if_pos hli];exact ⟨rfl, rfl⟩
   ·generalize zfq L = T at *
    repeat' (first
  | (refine zgr rfl ?_; simp [hli])
  | ((first | refine CallP.f2 rfl (h3) (by first | simp [hli] <;> rfl | fail) ?_ | refine CallP.f2 rfl (h4) (by first | simp [hli] <;> rfl | fail) ?_ | fail); simp [hli])
  | fail)
    refine ⟨rfl, ?_⟩;refine EndW.norm (EndW.here ?_)
    (refine EndOK.fin (.inr rfl) ?_); simp [zdT, zas, Tryz.results14]; refine FinOK.here (by simp [hn00]) ?_; simp [za7]
theorem zmI (s : W8) (hl : s.length <= 900000) : Fun Tryz.prog 14 [.u (.str s)] (· = .tup [.u (Vm.inss (zjt s).1), .u (.int .i64 (zjt s).2)]) := by
 unfold Fun;exact (zqD s hl).ret (fun d o n h => h) (fun ch o n h => h.elim)
end Go.Proofs.YtkdhmbhbbciedaaGreatDoor
namespace Go.VL
open Go
theorem zun {P : Program} {Γ : Ctx} {c : Code} {s : St} {Q : Exit -> St -> Prop} {x j : Nat} {cells : List U} {rows : List (List U)} (hx : getK s.env x = some (.u (.agg cells))) (hj : cells[j]? = some (.sl rows)) (h : rows.length <= 9223372036854775807 -> V P Γ c s Q) : V P Γ c s Q :=
 zp9 (fun K a w hs => by
  have hr := (hs.getK hx).2;obtain ⟨vs, hl, _, hr⟩ := zer hr;have hr := hr j _ hj;generalize vs.getD j undef = v at hr;cases hr with
  | slE => simp
  | sl _ b o sz c f hc hcx => unfold maxLen at hcx; omega) h
end Go.VL
namespace Go.Proofs.YtkdhmbhbbciedaaGreatDoor
open Go Go.VL
attribute [local simp] za2 zcH zbP evPure opd uOf zaq St.put St.at getK binD binI binS binB nilD aggD ze4 zfg lookD lookR zbM rangeS Go.VL.nextD Go.VL.nextS zbR zfi zfh zeD zb0 mkV zaX zaE zaD zaC zcG zaA zaP za5 mapEff zdm zeo Key.kk shiftI arith unD convD zda loadD cellsAt fieldAddrD fieldD indexAddrD indexSlD arrAddr indexD sliceD cutD lenD minmaxD nilCheckD buildD fillD zbv zcI zec setAll zcA zd1 zbK zeT zbJ St.add zak zbd rowsOf zcU zcb zad zac zaa zaW zcy zaH entry zah zaj valD zbW zcu zeU zcN zcO zbC zbu zag zaM za4 delAll effD St.effS zb6 zaF zat zb7 zaG zav zbq zau zam zbr zb5 za1 zbm zaO zbl zai mkD zbi zbb zbf zag zbT D.ids Op.operands Call.operands zbc makeIfD makeFuncD typeAssertD zff zcX zcY zfb zbN IntKind.bits zcx List.take_of_length_le List.range_succ zcm zbF zcn zch zba zbw zby zci zbA zaU zbz zbx zfO zbE zck zaK zaw zcl zaL zay zbD zax zap zcq zcr zfN zab frzN frz1 zaR zaQ St.frz St.frzS frzS fv zbQ zb2 zb3 zaS zaz zan frz zcd zbU zbY zbZ za6 St.norm St.lp St.only zaY wkE wkO wkU Ob.under D.under zal zar zco zbG zcp h4s zdT zas za7 List.zipIdx_cons List.zipIdx_nil List.map_cons List.map_nil Nat.zero_add
attribute [local irreducible] V G H HD HD2 za3 Eff CallP CallV EndOK Fun Ret FinOK LoopI LoopW EndW HR vs2 RN Cnd H4
theorem zoX {l : List Tok} (hl : TokOK l) : ∀ f, zg8 l f /\ ztt l f /\ zjj l f := by
 intro f
 induction f using Nat.strongRecOn with
 | _ f ih =>
  cases f with
  | zero => exact ⟨fun p form i nx _ _ h => by omega, fun p form i nx _ _ h => by omega, fun p i nx _ _ h => by omega⟩
  | succ f =>
   obtain ⟨h1, h2, h3⟩ := ih f (by omega);exact ⟨zrc hl (fun g hg => (ih g (by omega)).1) h2, zlO hl h1 h3, zkE hl h1⟩
def Exp.lev : Exp -> Int
 | .mk _ _ _ _ args => (args.map fun e => e.lev).foldl max 0 + 1
theorem Exp.zig (e : Exp) : e.lev = (e.args.map Exp.lev).foldl max 0 + 1 := by
 cases e with
 | mk op n u s args => rw [Exp.lev]; rfl
theorem zdk : ∀ (l : List Int) (a : Int), a <= l.foldl max a /\ ∀ x ∈ l, x <= l.foldl max a
 | [], a => ⟨by simp, fun x h => by simp at h⟩
 | b :: l, a => by
  obtain ⟨h1, h2⟩ := zdk l (max a b);refine ⟨by simp only [List.foldl_cons]; omega, fun x hx => ?_⟩;rcases List.mem_cons.1 hx with rfl | hx
  ·simp only [List.foldl_cons]; omega
  ·exact h2 x hx
theorem Exp.lev_pos (e : Exp) : 1 <= e.lev := by
 rw [Exp.zig];have := (zdk (e.args.map Exp.lev) 0).1;omega
theorem Exp.zmw {e x : Exp} (h : x ∈ e.args) : SizeOf.sizeOf x < SizeOf.sizeOf e := by
 cases e with
 | mk op n u s args =>
  have := List.sizeOf_lt_of_mem h;simp only [Exp.args] at this;simp only [Exp.mk.sizeOf_spec];omega
theorem znL : ∀ (n : Nat) (e : Exp), SizeOf.sizeOf e <= n -> e.lev <= 1000000000 -> Fun Tryz.prog 109 [.u (.agg e.row)] (· = .u (.int .i64 e.lev)) := by
 intro n
 induction n with
 | zero =>
  intro e h;cases e with
  | mk op n u s args => simp only [Exp.mk.sizeOf_spec] at h; omega
 | succ n ih =>
  intro e hs he;have hx : ∀ x ∈ e.args, Fun Tryz.prog 109 [.u (.agg [.int .i64 x.op, .int .i64 x.n, .int .i64 x.unit, .str x.s, .sl (x.args.map Exp.row)])] (· = .u (.int .i64 x.lev)) := fun x hx => by
   rw [<- Exp.row_eq];refine ih x (by have := Exp.zmw hx; omega) ?_;have := (zdk (e.args.map Exp.lev) 0).2 x.lev (List.mem_map.2 ⟨x, hx, rfl⟩);rw [Exp.zig] at he;omega
  have hlb : ∀ k, ((e.args.map Exp.lev).take k).foldl max 0 <= 1000000000 := fun k => by
   rw [<- List.map_take];rw [Exp.zig] at he;have h2 : (e.args.map Exp.lev).foldl max 0 = (e.args.drop k |>.map Exp.lev).foldl max ((e.args.take k |>.map Exp.lev).foldl max 0) := by
    rw [<- List.foldl_append, <- List.map_append, List.take_append_drop]
   have := (zdk (e.args.drop k |>.map Exp.lev) ((e.args.take k |>.map Exp.lev).foldl max 0)).1;omega
  rw [Exp.row_eq, Exp.zig];generalize hA : e.args = A at *;rw [Exp.zig, hA] at he;refine Fun.run Tryz.func109 Tryz.ntmps109 Tryz.results109 rfl (by simp) fun Γ hn => ?_; simp only [entry, List.zipIdx_cons, List.zipIdx_nil, List.map_cons, List.map_nil, Nat.zero_add];refine zun (x := 0) (j := 4) rfl rfl fun hl => ?_;simp at hl
  repeat' (first
  | (refine zaf rfl ?_; simp)
  | fail)
  refine zdh (α := { k : Nat // k <= A.length }) [0, 1, 2, 7, 8] (fun k => [(9, .u (.int .i64 k.1)), (3, .u (.int .i64 (((A.map Exp.lev).take k.1).foldl max 0)))]) (fun k => A.length - k.1) ⟨0, by omega⟩ ?_ ?_
  ·exact (Wk.env rfl rfl rfl (by simp [wkE, St.lp, zaY, zaa, getK] <;> (try (intros; simp_all; done)) <;> (try (intros; omega)) <;> (try grind)))
  rintro ⟨k, hk⟩;simp;rcases hy : A[k]? with _ | y
  ·have hge : A.length <= k := by simpa using hy
   have hb := hlb k;rw [List.take_of_length_le (by simpa using hge : (A.map Exp.lev).length <= k)] at hb ⊢;have hb0 := (zdk (A.map Exp.lev) 0).1;generalize (A.map Exp.lev).foldl max 0 = M at *
   repeat' (first
  | (refine Cnd.of (fun hc => ?_) (fun hc => ?_) <;> (try (exfalso; omega)) <;> (try simp [hy]))
  | (refine zaf rfl ?_; simp [hy])
  | (refine And.intro (by omega) ?_)
  | fail)
   (refine Pst.of ?_; simp)
  ·have hlt : k < A.length := (List.getElem?_eq_some_iff.1 hy).1;have hfn := hx y (List.mem_of_getElem? hy);have ht : ((A.map Exp.lev).take (k + 1)).foldl max 0 = max (((A.map Exp.lev).take k).foldl max 0) y.lev := by
    rw [List.take_add_one, List.getElem?_map, hy];simp
   have hb := hlb (k + 1);rw [ht] at hb;have hb0 := (zdk ((A.map Exp.lev).take k) 0).1;generalize hM : ((A.map Exp.lev).take k).foldl max 0 = M at *;have hyp := y.lev_pos
   repeat' (first
  | (refine Cnd.of (fun hc => ?_) (fun hc => ?_) <;> (try (exfalso; omega)) <;> (try simp [hy, Exp.row_eq]))
  | (refine zaf rfl ?_; simp [hy, Exp.row_eq])
  | (refine And.intro (by omega) ?_)
  | (refine CallP.f2 rfl (hfn) (by first | simp [hy, Exp.row_eq] <;> rfl | fail) ?_; simp [hy, Exp.row_eq])
  | fail)
   refine LoopW.next ⟨k + 1, hlt⟩ (by show A.length - (k + 1) < A.length - k; omega) ?_
   exact (Wk.zem (by simp [hn, ht] <;> grind))
end Go.Proofs.YtkdhmbhbbciedaaGreatDoor
namespace Go.Proofs.YtkdhmbhbbciedaaGreatDoor
open Go Go.VL
attribute [local simp] HS za2 zcH zbP evPure opd uOf zaq St.put St.at getK binD binI binS binB nilD aggD ze4 zfg lookD lookR zbM rangeS Go.VL.nextD Go.VL.nextS zbR zfi zfh zeD zb0 mkV zaX zaE zaD zaC zcG zaA zaP za5 mapEff zdm zeo Key.kk shiftI arith unD convD zda loadD cellsAt fieldAddrD fieldD indexAddrD indexSlD arrAddr indexD sliceD cutD lenD minmaxD nilCheckD buildD fillD zbv zcI zec setAll zcA zd1 zbK zeT zbJ St.add zak zbd rowsOf zcU zcb zad zac zaa zaW zcy zaH entry zah zaj valD zbW zcu zeU zcN zcO zbC zbu zag zaM za4 delAll effD St.effS zb6 zaF zat zb7 zaG zav zbq zau zam zbr zb5 za1 zbm zaO zbl zai mkD zbi zbb zbf zag zbT D.ids Op.operands Call.operands zbc makeIfD makeFuncD typeAssertD zff zcX zcY zfb zbN IntKind.bits zcx List.take_of_length_le List.range_succ zcm zbF zcn zch zba zbw zby zci zbA zaU zbz zbx zfO zbE zck zaK zaw zcl zaL zay zbD zax zap zcq zcr zfN zab frzN frz1 zaR zaQ St.frz St.frzS frzS fv zbQ zb2 zb3 zaS zaz zan frz zcd zbU zbY zbZ za6 St.norm St.lp St.only zaY wkE wkO wkU Ob.under D.under zal zar zco zbG zcp h4s zdT zas za7 List.zipIdx_cons List.zipIdx_nil List.map_cons List.map_nil Nat.zero_add
attribute [local irreducible] V G H HD HD2 HD4 zgw RetX za3 Eff CallP CallV EndOK Fun Ret FinOK LoopI LoopW EndW HR vs2 RN Cnd H4
abbrev zle : Ob := .box [.u (.int .i64 0), .u (.int .i64 0), .u (.int .i64 0), .u (.str []), .u .nil]
theorem zjx (i j q nx : Nat) (hi : i < nx) (hj : j < nx) (hq : q < nx) (hij : i ≠ j) (hiq : i ≠ q) (hjq : j ≠ q) (p e pos err : Int) (a b c : Int) (t : List UInt8) (g : U) :
  RetDf Tryz.prog 104 [.ptr i 0, .ptr j 0, .ptr q 0] [(i, .box [.u (.int .i64 p)]), (j, .box [.u (.int .i64 e)]), (q, .box [.u (.int .i64 a), .u (.int .i64 b), .u (.int .i64 c), .u (.str t), .u g])] nx (.panicking (chP pos err))
   (fun u o n => settle u = .returning /\ n = nx /\ o = [(i, .box [.u (.int .i64 pos)]), (j, .box [.u (.int .i64 err)]), (q, zle)]) := by
 have hne := zbo hi;have hne2 := zbo hj;have hne3 := zbo hq;have hc0 := zmj i j nx hi hj hij p e pos err;refine RetDf.of_body Tryz.func104 rfl (by simp) (by simp) rfl fun Γ hn => ?_;simp [entry, znw, chP, Tryz.ntmps104];refine CallP.x2 hc0 (by simp [getK]) (by simp [getK, hij, Ne.symm hij]) hij rfl rfl (by simp) (by simp) (fun d o1 nx' hnx h => ?_) (fun ch o1 nx' hnx h => by cases h.1);obtain ⟨h1, rfl, h4⟩ := h;have h4 := h4.symm;subst h4;cases h1;simp [del, hij, Ne.symm hij, hiq, hjq, Ne.symm hiq, Ne.symm hjq]
 repeat' (first
  | (refine zaf rfl ?_; simp [hij, hiq, hjq])
  | fail)
 (refine ⟨by simp, { n := _, env := [], obs := [(i, .box [.u (.int .i64 pos)]), (j, .box [.u (.int .i64 err)]), (q, zle)], next := nx }, (Wk.cut rfl (by simp [hn]) (by simp [wkO, zaa, getK, zab, zac, Ob.under, D.under, zal, zar, hi, hj, hq, hne, hne2, hne3, hij, hiq, hjq, Ne.symm hij, Ne.symm hiq, Ne.symm hjq]) (by simp [wkU, zaY, zaa, getK, D.under, hi, hj, hq, hne, hne2, hne3, hij, hiq, hjq, Ne.symm hij, Ne.symm hiq, Ne.symm hjq]) (by simp [wkE, zaY, zaa, getK, hi, hj, hq, hne, hne2, hne3, hij, hiq, hjq, Ne.symm hij, Ne.symm hiq, Ne.symm hjq])), by simp [hn], ?_⟩; try simp)
 all_goals rfl
theorem zpe {s : List UInt8} : ∀ (f p : Nat) (l : List Tok), zpf f s p = .ok l -> s.length < p + f -> p <= s.length ->
  (∀ (i : Nat) (t : Tok), l[i]? = some t -> t.kind ≠ 0 -> i + 1 < l.length) /\ l.length <= s.length - p + 1 /\ 0 < l.length
 | 0, p, l, _, h2, h3 => by omega
 | f + 1, p, l, h, h2, h3 => by
  rw [zpf] at h;have hle := zep zcW (s.drop p);rw [List.length_drop] at hle;split at h
  ·cases h;refine ⟨fun i t hi hk => ?_, by simp, by simp⟩;rcases i with _ | i
   ·simp at hi;subst hi;exact absurd rfl hk
   ·simp at hi
  ·rename_i c r hd;have hdl : (s.drop (p + zdn zcW (s.drop p))).length = r.length + 1 := by rw [hd]; rfl
   rw [List.length_drop] at hdl;split at h
   ·cases h
   ·rename_i t ht;obtain ⟨ht1, ht2⟩ := zgE ht;simp only [List.length_cons] at ht2;split at h
    ·cases h
    ·rename_i l' hl';cases h;obtain ⟨g1, g2, g3⟩ := zpe f _ l' hl' (by omega) (by omega);refine ⟨fun i t' hi hk => ?_, by simp only [List.length_cons]; omega, by simp⟩;rcases i with _ | i
     ·simp; exact g3
     ·simp only [List.getElem?_cons_succ] at hi;have := g1 i t' hi hk;simp only [List.length_cons];omega
theorem zsD {s : List UInt8} {l : List Tok} (h : zpd s = .ok l) : TokOK l /\ l.length <= 2001 /\ 0 < l.length := by
 unfold zpd at h;split at h
 ·cases h
 ·obtain ⟨g1, g2, g3⟩ := zpe _ _ _ h (by omega) (by omega);exact ⟨⟨g1, by omega⟩, by omega, g3⟩
theorem Exp.zlD {op n u : Int} {s : List UInt8} {args : List Exp} {B : Int} (h : ∀ x ∈ args, x.lev <= B) (h0 : 0 <= B) : (Exp.mk op n u s args).lev <= B + 1 := by
 rw [Exp.zig];simp only [Exp.args];have : ∀ (l : List Int) (a : Int), a <= B -> (∀ x ∈ l, x <= B) -> l.foldl max a <= B := by
  intro l
  induction l with
  | nil => intro a ha _; exact ha
  | cons b l ih => intro a ha hl; exact ih _ (by have := hl b (by simp); omega) fun x hx => hl x (by simp [hx])
 have := this (args.map Exp.lev) 0 h0 (fun x hx => by obtain ⟨y, hy, rfl⟩ := List.mem_map.1 hx; exact h y hy);omega
theorem zkL {l : List Tok} : ∀ (f : Nat),
  (∀ p form e q, zfu l f p form = .ok e q -> e.lev <= f * f + 1) /\
  (∀ form e own p e' q, zfL l f form e own p = .ok e' q -> e'.lev <= max e.lev (f * f + 1) + f) /\
  (∀ p form e q, zcc l f p form = .ok e q -> e.1.lev <= f * f + 1) /\
  (∀ p e q, zbj l f p = .ok e q -> e.lev <= f * f + 1)
 | 0 => ⟨fun _ _ _ _ h => by simp [zfu] at h, fun _ _ _ _ _ _ h => by simp [zfL] at h, fun _ _ _ _ h => by simp [zcc] at h, fun _ _ _ h => by simp [zbj] at h⟩
 | f + 1 => by
  obtain ⟨he, hlo, hpr, hpm⟩ := zkL f;have hsq : ((f + 1 : Nat) : Int) * ((f + 1 : Nat) : Int) = (f : Int) * f + 2 * f + 1 := by
   rw [show ((f + 1 : Nat) : Int) = (f : Int) + 1 by omega, Int.add_mul, Int.mul_add]; omega
  rw [hsq];have h0 : (0 : Int) <= (f : Int) * f := Int.mul_nonneg (by omega) (by omega);generalize hF : (f : Int) * f = F at *;refine ⟨fun p form e q h => ?_, fun form e own p e' q h => ?_, fun p form e q h => ?_, fun p e q h => ?_⟩
  ·rw [zfu] at h;obtain ⟨a, r, h1, h2⟩ := PR.zaZ h;have g1 := hpr _ _ _ _ h1;have g2 := hlo _ _ _ _ _ _ h2;omega
  ·rw [zfL] at h;split at h
   ·cases h; omega
   ·split at h
    ·cases h; omega
    ·obtain ⟨a, r, h1, h2⟩ := PR.zaZ h;have g1 := he _ _ _ _ h1;have g2 := hlo _ _ _ _ _ _ h2;rename_i x _ _;have g3 := Exp.zlD (op := x.op) (n := 0) (u := 0) (s := []) (args := [e, a]) (B := max e.lev (F + 1)) (by
      intro y hy;simp only [List.mem_cons, List.not_mem_nil, or_false] at hy;rcases hy with rfl | rfl <;> omega) (by omega)
     omega
  ·rw [zcc] at h;split at h
   ·obtain ⟨a, r, h1, h⟩ := PR.zaZ h;obtain ⟨_, r2, h2, h⟩ := PR.zaZ h;obtain ⟨b, r3, h3, h⟩ := PR.zaZ h;obtain ⟨_, r4, h4, h⟩ := PR.zaZ h;obtain ⟨c, r5, h5, h⟩ := PR.zaZ h;cases h;have g1 := he _ _ _ _ h1;have g3 := he _ _ _ _ h3;have g5 := he _ _ _ _ h5;have := Exp.zlD (op := 13) (n := 0) (u := 0) (s := []) (args := [a, b, c]) (B := F + 1) (by
     intro y hy;simp only [List.mem_cons, List.not_mem_nil, or_false] at hy;rcases hy with rfl | rfl | rfl <;> omega) (by omega)
    simp only;omega
   ·split at h
    ·obtain ⟨a, r, h1, h⟩ := PR.zaZ h;cases h;have g1 := he _ _ _ _ h1;have := Exp.zlD (op := 12) (n := 0) (u := 0) (s := []) (args := [a]) (B := F + 1) (by
      intro y hy;simp only [List.mem_cons, List.not_mem_nil, or_false] at hy;rcases hy with rfl; omega) (by omega)
     simp only;omega
    ·obtain ⟨a, r, h1, h⟩ := PR.zaZ h;cases h;have g1 := hpm _ _ _ h1;simp only;omega
  ·have leaf : ∀ (op n u : Int) (s : List UInt8), (Exp.mk op n u s []).lev <= F + 2 * f + 1 + 1 := fun op n u s => by
    have := Exp.zlD (op := op) (n := n) (u := u) (s := s) (args := []) (B := 0) (by simp) (by omega);omega
   rw [zbj] at h;split at h
   ·cases h
   ·split at h
    ·obtain ⟨a, r, h1, h⟩ := PR.zaZ h;cases h; exact leaf ..
    split at h
    ·cases h; exact leaf ..
    split at h
    ·cases h; exact leaf ..
    split at h
    ·obtain ⟨_, r2, h2, h⟩ := PR.zaZ h;obtain ⟨a, r3, h3, h⟩ := PR.zaZ h;obtain ⟨_, r4, h4, h⟩ := PR.zaZ h;obtain ⟨b, r5, h5, h⟩ := PR.zaZ h;obtain ⟨_, r6, h6, h⟩ := PR.zaZ h;have g3 := he _ _ _ _ h3;have g5 := he _ _ _ _ h5;have := Exp.zlD (op := if isB l p [109, 97, 120] = true then 7 else 6) (n := 0) (u := 0) (s := []) (args := [a, b]) (B := F + 1) (by
      intro y hy;simp only [List.mem_cons, List.not_mem_nil, or_false] at hy;rcases hy with rfl | rfl <;> omega) (by omega)
     cases h;omega
    split at h
    ·obtain ⟨a, r3, h3, h⟩ := PR.zaZ h;obtain ⟨_, r4, h4, h⟩ := PR.zaZ h;cases h;have g3 := he _ _ _ _ h3;omega
    split at h
    ·cases h; exact leaf ..
    ·cases h
def zmU (l : List Tok) (p : Nat) : Int := match l[p]? with | some t => t.kind | none => 0
def zg4 : Exp := .mk 0 0 0 [] []
def zgT (s : List UInt8) : Exp × Int × Int := match zpd s with
 | .error (p, e) => (zg4, p, e)
 | .ok l => match zfu l (4 * l.length + 3) 0 0 with
  | .stop pos e => (zg4, pos, e)
  | .ok y q => if zmU l q ≠ 0 then (zg4, zkJ l q, 12) else if 12 < y.lev then (zg4, zkJ l q, 6) else (y, 0, 0)
theorem zo4 {c : UInt8} {r : List UInt8} {e : Int} (h : zil (c :: r) = .error e) : e ≠ 0 := by
 unfold zil at h;simp only at h;split at h
 ·split at h <;> cases h;omega
 ·split at h
  ·split at h <;> cases h;omega
  ·split at h <;> cases h;omega
theorem zmS {s : List UInt8} : ∀ (f p : Nat) (q : Nat) (e : Int), zpf f s p = .error (q, e) -> p <= s.length -> e ≠ 0 /\ q <= s.length
 | 0, p, q, e, h, _ => by simp [zpf] at h
 | f + 1, p, q, e, h, h3 => by
  rw [zpf] at h;have hle := zep zcW (s.drop p);rw [List.length_drop] at hle;split at h
  ·cases h
  ·rename_i c r hd;have hdl : (s.drop (p + zdn zcW (s.drop p))).length = r.length + 1 := by rw [hd]; rfl
   rw [List.length_drop] at hdl;split at h
   ·rename_i ht;cases h;exact ⟨zo4 ht, by omega⟩
   ·rename_i t ht;obtain ⟨ht1, ht2⟩ := zgE ht;simp only [List.length_cons] at ht2;split at h
    ·rename_i x hx;cases h;exact zmS f _ q e hx (by omega)
    ·cases h
theorem zqU {s : List UInt8} {q : Nat} {e : Int} (h : zpd s = .error (q, e)) : e ≠ 0 /\ q <= s.length := by
 unfold zpd at h;split at h
 ·cases h; exact ⟨by decide, by omega⟩
 ·exact zmS _ _ _ _ h (by omega)
def zr2 (r : Exp × Int × Int) : D := .tup [.u (.agg r.1.row), .u (.int .i64 r.2.1), .u (.int .i64 r.2.2)]
theorem zkN (s : List UInt8) : RetX Tryz.prog 64 [.u (.str s)] [] 0 (fun r o n => r = .val (zr2 (zgT s))) := by
 unfold zgT;cases hlx : zpd s with
 | error pe =>
  obtain ⟨p, e⟩ := pe;have ho := fun nx => zqH s p e nx hlx;have he := (zqU hlx).1;simp only
  (refine RetX.zfK Tryz.func64 rfl (by simp) fun Γ hn hdfr hpan hesc => ?_); simp only [entry, List.zipIdx_cons, List.zipIdx_nil, List.map_cons, List.map_nil, Nat.zero_add, Tryz.ntmps64]
  repeat' (first
  | (refine zgs rfl ?_; simp [he])
  | (refine ⟨hC _ (by kernel_rfl), hk _ (zdb 0 _ _ _ ?_)⟩; clear hC hk C k; simp [he])
  | (refine zdX rfl (by kernel_rfl) (by first | (simp [hn]; done) | (simp [hn]; omega) | fail) fun C k hC hk => ?_; simp [he])
  | (refine CallP.okL (ho _) (by first | (simp [he, zaa, getK, zab, zac, zad, zai, del]; done) | fail) (by rfl) (by first | assumption | (simp; done) | fail) (by rfl) (by simp) ?_; (try simp [he, zdP, del]))
  | fail)
  refine EndW.norm ?_;simp [St.norm, za6, zbU, zbY, zbZ]
  (refine EndW.h Tryz.results64 ?_; simp)
  simp [zr2, Exp.row, zg4]
 | ok l =>
  obtain ⟨hl, hl2, hl0⟩ := zsD hlx;have ho := fun nx => zsy s l nx hlx;have hE := (zoX hl (4 * l.length + 3)).1 0 0 3 4 (by omega) hl0 (by omega) (by omega) (by omega);simp only;cases hr : zfu l (4 * l.length + 3) 0 0 with
  | stop pos e =>
   simp only [hr] at hE ⊢
   (refine RetX.zfK Tryz.func64 rfl (by simp) fun Γ hn hdfr hpan hesc => ?_); simp only [entry, List.zipIdx_cons, List.zipIdx_nil, List.map_cons, List.map_nil, Nat.zero_add, Tryz.ntmps64]
   rw [zfE]
   repeat' (first
  | (refine zgs rfl ?_; simp)
  | (refine CallP.okL (ho _) (by first | (simp [zaa, getK, zab, zac, zad, zai, del]; done) | fail) (by rfl) (by first | assumption | (simp; done) | fail) (by rfl) (by simp) ?_; (try simp [zdP, del]))
  | fail)
   refine zkd hesc hdfr rfl (by simp) ?_;have hn0 := hn;have hpan0 := hpan;intro Γ' hn hpan;simp
   repeat' (first
  | (refine zgs rfl ?_; simp)
  | (refine CallP.zhq (hE) (by first | (simp [zaa, getK, zab, zac]; done) | fail) (by rfl) (by first | assumption | (simp; done) | fail) (by rfl) (by simp) ?_; rintro ob' ⟨q', rfl⟩; refine ⟨_, Wk.refl _, ?_⟩)
  | fail)
   refine hpan _ _ ?_;refine LeaveD.of [(1, .box [.u (.int .i64 0)]), (2, .box [.u (.int .i64 0)]), (0, zle)] (by simp [zaa, getK, zab, zac]) (zjx 1 2 0 _ (by simp) (by simp) (by simp) (by decide) (by decide) (by decide) 0 0 _ _ 0 0 0 [] .nil) ?_;simp only [show Γ.base.n0 = 0 from hn0];simp [zdP, del];refine EndW.norm ?_;simp [St.norm, za6, zbU, zbY, zbZ]
   (refine EndW.h Tryz.results64 ?_; simp)
   simp [zr2, Exp.row, zg4]
  | ok y q =>
   have hEx := zeN hE hr;obtain ⟨g0a, g0b⟩ := (zdH hl _).1 _ _ _ _ hr hl0;have hlev := (zkL (l := l) _).1 _ _ _ _ hr;have hlev2 : y.lev <= 1000000000 := by
    have h1 : ((4 * l.length + 3 : Nat) : Int) * ((4 * l.length + 3 : Nat) : Int) <= 8007 * 8007 := Int.mul_le_mul (by omega) (by omega) (by omega) (by omega);omega
   have hlv := znL (SizeOf.sizeOf y) y (Nat.le_refl _) hlev2;rw [Exp.row_eq] at hlv;obtain ⟨t, ht⟩ : ∃ t, l[q]? = some t := ⟨_, List.getElem?_eq_getElem g0b⟩;have hnx := zdG l q t ht hl.len;have hka : zmU l q = t.kind := by unfold zmU; rw [ht]
   have hpa : zkJ l q = t.pos := by unfold zkJ; rw [ht]
   simp only [hka, hpa];by_cases hk : t.kind = 0
   ·have hc1 := fun nx (h : 3 < nx) => zhm l q 12 3 nx h;rw [if_neg (by simp [hk])];by_cases hv : 12 < y.lev
    ·have hc2 := fun nx (h : 3 < nx) => zgn l q t 6 3 nx h ht hl.len;have hv2 : ¬ y.lev <= 12 := by omega
     rw [if_pos hv]
     (refine RetX.zfK Tryz.func64 rfl (by simp) fun Γ hn hdfr hpan hesc => ?_); simp only [entry, List.zipIdx_cons, List.zipIdx_nil, List.map_cons, List.map_nil, Nat.zero_add, Tryz.ntmps64]
     rw [zfE]
     repeat' (first
  | (refine zgs rfl ?_; simp)
  | (refine CallP.okL (ho _) (by first | (simp [zaa, getK, zab, zac, zad, zai, del]; done) | fail) (by rfl) (by first | assumption | (simp; done) | fail) (by rfl) (by simp) ?_; (try simp [zdP, del]))
  | fail)
     refine zkd hesc hdfr rfl (by simp) ?_;have hn0 := hn;have hpan0 := hpan;intro Γ' hn hpan;simp
     repeat' (first
  | (refine zgs rfl ?_; simp [hk, hv, hv2, del])
  | ((first | refine CallP.f2 rfl (hlv) (by first | simp [hk, hv, hv2, del] <;> rfl | fail) ?_ | refine CallP.f2 rfl (hnx) (by first | simp [hk, hv, hv2, del] <;> rfl | fail) ?_ | fail); simp [hk, hv, hv2, del])
  | (refine CallP.ok1 (hEx) (by first | (simp [hk, hv, hv2, del, zaa, getK, zab, zac]; done) | fail) (by rfl) (by first | assumption | (simp; done) | fail) (by rfl) (by simp) ?_; (try simp [hk, hv, hv2, del]))
  | (refine CallP.ok1 (hc1 _ (by simp)) (by first | (simp [hk, hv, hv2, del, zaa, getK, zab, zac]; done) | fail) (by rfl) (by first | assumption | (simp; done) | fail) (by rfl) (by simp) ?_; (try simp [hk, hv, hv2, del]))
  | (refine CallP.zhq (hc2 _ (by simp)) (by first | (simp [hk, hv, hv2, del, zaa, getK, zab, zac]; done) | fail) (by rfl) (by first | assumption | (simp; done) | fail) (by rfl) (by simp) ?_; rintro ob' ⟨q', rfl⟩; refine ⟨_, Wk.refl _, ?_⟩)
  | fail)
     refine hpan _ _ ?_;refine LeaveD.of [(1, .box [.u (.int .i64 0)]), (2, .box [.u (.int .i64 0)]), (0, zle)] (by simp [zaa, getK, zab, zac]) (zjx 1 2 0 _ (by simp) (by simp) (by simp) (by decide) (by decide) (by decide) 0 0 _ _ 0 0 0 [] .nil) ?_;simp only [show Γ.base.n0 = 0 from hn0];simp [zdP, del];refine EndW.norm ?_;simp [St.norm, za6, zbU, zbY, zbZ]
     (refine EndW.h Tryz.results64 ?_; simp)
     simp [zr2, Exp.row, zg4]
    ·have hc2 := fun nx (h : 3 < nx) => zhm l q 6 3 nx h;have hv2 : y.lev <= 12 := by omega
     rw [if_neg hv]
     (refine RetX.zfK Tryz.func64 rfl (by simp) fun Γ hn hdfr hpan hesc => ?_); simp only [entry, List.zipIdx_cons, List.zipIdx_nil, List.map_cons, List.map_nil, Nat.zero_add, Tryz.ntmps64]
     rw [zfE]
     repeat' (first
  | (refine zgs rfl ?_; simp)
  | (refine CallP.okL (ho _) (by first | (simp [zaa, getK, zab, zac, zad, zai, del]; done) | fail) (by rfl) (by first | assumption | (simp; done) | fail) (by rfl) (by simp) ?_; (try simp [zdP, del]))
  | fail)
     refine zkd hesc hdfr rfl (by simp) ?_;have hn0 := hn;have hpan0 := hpan;intro Γ' hn hpan;simp
     repeat' (first
  | (refine zgs rfl ?_; simp [hk, hv, hv2, del])
  | ((first | refine CallP.f2 rfl (hlv) (by first | simp [hk, hv, hv2, del] <;> rfl | fail) ?_ | refine CallP.f2 rfl (hnx) (by first | simp [hk, hv, hv2, del] <;> rfl | fail) ?_ | fail); simp [hk, hv, hv2, del])
  | (refine CallP.ok1 (hEx) (by first | (simp [hk, hv, hv2, del, zaa, getK, zab, zac]; done) | fail) (by rfl) (by first | assumption | (simp; done) | fail) (by rfl) (by simp) ?_; (try simp [hk, hv, hv2, del]))
  | (refine CallP.ok1 (hc1 _ (by simp)) (by first | (simp [hk, hv, hv2, del, zaa, getK, zab, zac]; done) | fail) (by rfl) (by first | assumption | (simp; done) | fail) (by rfl) (by simp) ?_; (try simp [hk, hv, hv2, del]))
  | (refine CallP.ok1 (hc2 _ (by simp)) (by first | (simp [hk, hv, hv2, del, zaa, getK, zab, zac]; done) | fail) (by rfl) (by first | assumption | (simp; done) | fail) (by rfl) (by simp) ?_; (try simp [hk, hv, hv2, del]))
  | fail)
     refine ⟨rfl, ?_⟩;refine LeaveD.of [(1, .box [.u (.int .i64 0)]), (2, .box [.u (.int .i64 0)]), (0, .box ([.int .i64 y.op, .int .i64 y.n, .int .i64 y.unit, .str y.s, .sl (y.args.map Exp.row)].map .u))] (by simp [zaa, getK, zab, zac]) (zqG 1 2 0 _ (by simp) (by simp) (by simp) (by decide) (by decide) (by decide) 0 0 _) ?_;simp only [show Γ.base.n0 = 0 from hn0];simp [zdP, del]
     (refine EndW.h Tryz.results64 ?_; simp)
     simp [zr2, Exp.row_eq]
   ·have hc1 := fun nx (h : 3 < nx) => zgn l q t 12 3 nx h ht hl.len;rw [if_pos hk]
    (refine RetX.zfK Tryz.func64 rfl (by simp) fun Γ hn hdfr hpan hesc => ?_); simp only [entry, List.zipIdx_cons, List.zipIdx_nil, List.map_cons, List.map_nil, Nat.zero_add, Tryz.ntmps64]
    rw [zfE]
    repeat' (first
  | (refine zgs rfl ?_; simp)
  | (refine CallP.okL (ho _) (by first | (simp [zaa, getK, zab, zac, zad, zai, del]; done) | fail) (by rfl) (by first | assumption | (simp; done) | fail) (by rfl) (by simp) ?_; (try simp [zdP, del]))
  | fail)
    refine zkd hesc hdfr rfl (by simp) ?_;have hn0 := hn;have hpan0 := hpan;intro Γ' hn hpan;simp
    repeat' (first
  | (refine zgs rfl ?_; simp [hk, del])
  | (refine CallP.f2 rfl (hnx) (by first | simp [hk, del] <;> rfl | fail) ?_; simp [hk, del])
  | (refine CallP.ok1 (hEx) (by first | (simp [hk, del, zaa, getK, zab, zac]; done) | fail) (by rfl) (by first | assumption | (simp; done) | fail) (by rfl) (by simp) ?_; (try simp [hk, del]))
  | (refine CallP.zhq (hc1 _ (by simp)) (by first | (simp [hk, del, zaa, getK, zab, zac]; done) | fail) (by rfl) (by first | assumption | (simp; done) | fail) (by rfl) (by simp) ?_; rintro ob' ⟨q', rfl⟩; refine ⟨_, Wk.refl _, ?_⟩)
  | fail)
    refine hpan _ _ ?_;refine LeaveD.of [(1, .box [.u (.int .i64 0)]), (2, .box [.u (.int .i64 0)]), (0, zle)] (by simp [zaa, getK, zab, zac]) (zjx 1 2 0 _ (by simp) (by simp) (by simp) (by decide) (by decide) (by decide) 0 0 _ _ 0 0 0 [] .nil) ?_;simp only [show Γ.base.n0 = 0 from hn0];simp [zdP, del];refine EndW.norm ?_;simp [St.norm, za6, zbU, zbY, zbZ]
    (refine EndW.h Tryz.results64 ?_; simp)
    simp [zr2, Exp.row, zg4]
theorem zgV (s : List UInt8) : Fun Tryz.prog 64 [.u (.str s)] (· = .tup [zcC (zgT s).1, .u (.int .i64 (zgT s).2.1), .u (.int .i64 (zgT s).2.2)]) := by
 unfold Fun;exact (zkN s).ret (fun d o n h => by
  cases h;refine ⟨by simp [zr2, za7], ?_⟩;rw [zr2, Exp.row_eq];rfl) (fun ch o n h => by cases h)
end Go.Proofs.YtkdhmbhbbciedaaGreatDoor
namespace Go.Proofs.YtkdhmbhbbciedaaGreatDoor
open Go Go.VL
mutual
def zuA : Exp -> Int
 | .mk _ _ _ _ args => zpg args + 1
def zpg : List Exp -> Int
 | [] => 0
 | e :: l => max (zuA e) (zpg l)
end
theorem zio (l : List Int) (a : Int) (ha : 0 <= a) : l.foldl max a = max a (l.foldl max 0) := by
 induction l generalizing a with
 | nil => simp; omega
 | cons b l ih => simp only [List.foldl_cons]; rw [ih (max a b) (by omega), ih (max 0 b) (by omega)]; omega
mutual
theorem zph : ∀ e : Exp, zuA e = e.lev
 | .mk op n u s args => by rw [zuA, Exp.zig, zmT]; rfl
theorem zmT : ∀ l : List Exp, zpg l = (l.map Exp.lev).foldl max 0
 | [] => by rw [zpg]; rfl
 | e :: l => by
  have := e.lev_pos;rw [zpg, zph, zmT, List.map_cons, List.foldl_cons, zio (l.map Exp.lev) (max 0 e.lev) (by omega)];omega
end
def zde (s : List UInt8) : Exp × Int × Int := match zpd s with
 | .error (p, e) => (zg4, p, e)
 | .ok l => match zfu l (4 * l.length + 3) 0 0 with
  | .stop pos e => (zg4, pos, e)
  | .ok y q => if zmU l q ≠ 0 then (zg4, zkJ l q, 12) else if 12 < zuA y then (zg4, zkJ l q, 6) else (y, 0, 0)
theorem zkM (s : List UInt8) : zgT s = zde s := by
 unfold zgT zde;simp only [zph];try rfl
end Go.Proofs.YtkdhmbhbbciedaaGreatDoor
namespace Go.Proofs.YtkdhmbhbbciedaaGreatDoor
open Go Go.VL
attribute [local simp] HS za2 zcH zbP evPure opd uOf zaq St.put St.at getK binD binI binS binB nilD aggD ze4 zfg lookD lookR zbM rangeS Go.VL.nextD Go.VL.nextS zbR zfi zfh zeD zb0 mkV zaX zaE zaD zaC zcG zaA zaP za5 mapEff zdm zeo Key.kk shiftI arith unD convD zda loadD cellsAt fieldAddrD fieldD indexAddrD indexSlD arrAddr indexD sliceD cutD lenD minmaxD nilCheckD buildD fillD zbv zcI zec setAll zcA zd1 zbK zeT zbJ St.add zak zbd rowsOf zcU zcb zad zac zaa zaW zcy zaH entry zah zaj valD zbW zcu zeU zcN zcO zbC zbu zag zaM za4 delAll effD St.effS zb6 zaF zat zb7 zaG zav zbq zau zam zbr zb5 za1 zbm zaO zbl zai mkD zbi zbb zbf zag zbT D.ids Op.operands Call.operands zbc makeIfD makeFuncD typeAssertD zff zcX zcY zfb zbN IntKind.bits zcx List.take_of_length_le List.range_succ zcm zbF zcn zch zba zbw zby zci zbA zaU zbz zbx zfO zbE zck zaK zaw zcl zaL zay zbD zax zap zcq zcr zfN zab frzN frz1 zaR zaQ St.frz St.frzS frzS fv zbQ zb2 zb3 zaS zaz zan frz zcd zbU zbY zbZ za6 St.norm St.lp St.only zaY wkE wkO wkU Ob.under D.under zal zar zco zbG zcp h4s zdT zas za7 List.zipIdx_cons List.zipIdx_nil List.map_cons List.map_nil Nat.zero_add
attribute [local irreducible] V G H HD HD2 HD4 zgw RetX za3 Eff CallP CallV EndOK Fun Ret FinOK LoopI LoopW EndW HR vs2 RN Cnd H4
theorem ze0 (lets : List Let) (bs : List W8) (s : W8) (e : Exp) (c : Code) (hlen : bs.length = lets.length) (hp : ∀ (i : Nat) (l : Let) (b : W8), lets[i]? = some l -> bs[i]? = some b -> zde b = (l.body, 0, 0))
  (he : zde s = (e, 0, 0)) (hc : zcZ lets e = (c, 0)) (hcl : c.length <= 1000000) (hll : lets.length <= 1000) :
  Fun Tryz.prog 32 [.u (zos (lets.map (·.name))), .u (zos bs), .u (.str s)] (· = .u (.str (zfq c))) := by
 have h1 := zgV s;rw [zkM, he] at h1;have h2 := ze6 lets e;rw [hc] at h2;have h3 := zmQ c hcl;simp only [zos, List.map_map, zaB, zcC, Vm.inss] at h1 h2 h3 ⊢;have hA0 : (fun i => (lets.take i).map zqV) 0 = [] := rfl;have hAl : ∀ i, i <= lets.length -> ((fun i => (lets.take i).map zqV) i).length = i := fun i hi => by simp; omega
 have hAn : ∀ i l, lets[i]? = some l -> (fun i => (lets.take i).map zqV) (i + 1) = (fun i => (lets.take i).map zqV) i ++ [zqV l] := fun i x hx => by
  have hlt : i < lets.length := (List.getElem?_eq_some_iff.1 hx).1;simp only;rw [List.take_succ_eq_append_getElem hlt, List.map_append, (List.getElem?_eq_some_iff.1 hx).2]; rfl
 have hAe : (lets.map fun l => [U.str l.name, .int .i64 l.body.op, .int .i64 l.body.n, .int .i64 l.body.unit, .str l.body.s, .sl (l.body.args.map Exp.row)]) = (fun i => (lets.take i).map zqV) lets.length := by simp [zqV]
 rw [hAe] at h2;generalize (fun i => (lets.take i).map zqV) = A at hA0 hAl hAn h2;clear hAe;refine Fun.runW Tryz.func32 Tryz.ntmps32 rfl (by simp) fun Γ hn => ?_; simp only [entry, List.zipIdx_cons, List.zipIdx_nil, List.map_cons, List.map_nil, Nat.zero_add];refine zie (x := 0) rfl fun hl1 => ?_;refine zie (x := 1) rfl fun hl2 => ?_;simp only [List.length_map] at hl1 hl2
 repeat' (first
  | (refine zaf rfl ?_; simp)
  | fail)
 refine zov _ (Wk.own 7 39 6 (by decide) rfl) ?_;simp [St.own];refine zdz (α := { i : Nat // i <= lets.length }) [0, 1, 2] (fun i => [(8, .u (.int .i64 i.1)), (7, .vec 0 i.1)]) (fun i => [(0, .vec 39 6 (rowsD (A i.1)))]) 1 (fun i => lets.length - i.1) ⟨0, by omega⟩ ?_ ?_
 ·exact (Wk.ren ((fun i => i)) rfl (by first | (simp [hn]; done) | (intro i hi; rw [hn] at hi; constructor <;> (try simp) <;> (try (intro _)) <;> omega)) (by simp [zgu, St.lp, zaY, zaa, getK, zac, zad, D.under, D.le, D.ren, hA0] <;> (try (intros; simp_all; done)) <;> (try omega)) (by simp [wkR, St.lp, zaa, getK, zac, zad, obR, leU, zbn, zaN, Ob.under, D.under, D.le, D.ren, hA0] <;> (try (intros; simp_all; done)) <;> (try omega)) (by simp [hA0]))
 rintro ⟨i, hi⟩;have hal := hAl i hi;have htk : (A i).take i = A i := List.take_of_length_le (by omega);simp;rcases hx : lets[i]? with _ | l
 case none =>
  have hge : lets.length <= i := by simpa using hx
  obtain rfl : i = lets.length := by omega
  refine zov _ (Wk.frz (e := 39) (sz := 6) 0 [] (us := A lets.length) (by simp [zaa]; rfl) (zgq _)) ?_;simp [St.frz, St.frzS, frzS, fv, zbQ, zaS, del, hal, htk];have hge1 : ¬ (lets.length : Int) < lets.length := by omega
  repeat' (first
  | (refine zaf rfl ?_; simp [hlen])
  | ((first | refine CallP.f2 rfl (h1) (by first | simp [hlen] <;> rfl | fail) ?_ | refine CallP.f2 rfl (h2) (by first | simp [hlen] <;> rfl | fail) ?_ | refine CallP.f2 rfl (h3) (by first | simp [hlen] <;> rfl | fail) ?_ | fail); simp [hlen])
  | fail)
  refine EndW.here ?_
  (refine EndOK.val (.inr rfl) ?_; simp [Tryz.results32])
 case some =>
  have hlt : i < lets.length := (List.getElem?_eq_some_iff.1 hx).1;obtain ⟨b, hb⟩ : ∃ b, bs[i]? = some b := ⟨_, List.getElem?_eq_getElem (by omega)⟩;have hlb : i < bs.length := by omega
  have hpi := hp i l b hx hb;have h5 := zgV b;rw [zkM, hpi] at h5;simp only [zcC] at h5;have hnext := hAn i l hx;simp only [zqV] at hnext;have hnx : lets[i] = l := (List.getElem?_eq_some_iff.1 hx).2;have hnb : bs[i] = b := (List.getElem?_eq_some_iff.1 hb).2
  repeat' (first
  | (refine zaf rfl ?_; simp [hx, hb, hlb, hlt, hlen, hnx, hnb])
  | (refine And.intro (by omega) ?_)
  | (refine ⟨hC _ (by kernel_rfl), hk _ (zdb 8 _ _ _ ?_)⟩; clear hC hk C k; simp [hx, hb, hlb, hlt, hlen, hnx, hnb])
  | (refine zdX rfl (by kernel_rfl) (by first | (simp [hn]; done) | (simp [hn]; omega) | fail) fun C k hC hk => ?_; simp [hx, hb, hlb, hlt, hlen, hnx, hnb])
  | (refine CallP.f2 rfl (h5) (by first | simp [hx, hb, hlb, hlt, hlen, hnx, hnb] <;> rfl | fail) ?_; simp [hx, hb, hlb, hlt, hlen, hnx, hnb])
  | fail)
  refine LoopW.next ⟨i + 1, (by omega : i + 1 <= lets.length)⟩ (by simp; omega) ?_
  exact (Wk.ren ((fun i => if i = 0 then 3 else i)) rfl (by first | (simp [hn]; done) | (intro i hi; rw [hn] at hi; constructor <;> (try simp) <;> (try (intro _)) <;> omega)) (by simp [zgu, St.lp, zaY, zaa, getK, zac, zad, D.under, D.le, D.ren, hnext, htk] <;> (try (intros; simp_all; done)) <;> (try omega)) (by simp [wkR, St.lp, zaa, getK, zac, zad, obR, leU, zbn, zaN, Ob.under, D.under, D.le, D.ren, hnext, htk] <;> (try (intros; simp_all; done)) <;> (try omega)) (by simp [hnext, htk]))
def sx1 : W8 := [112, 111, 116, 32, 45, 32, 112, 97, 105, 100, 32, 42, 32, 53, 48, 32, 112, 101, 114, 32, 109, 105, 108, 108, 101]
def sx2 : W8 := [104, 97, 108, 102, 32, 43, 32, 104, 97, 108, 102]
def sx3 : W8 := [105, 102, 32, 97, 32, 60, 32, 98, 32, 116, 104, 101, 110, 32, 49, 32, 101, 108, 115, 101, 32, 50]
def sx4 : W8 := [97, 32, 97, 110, 100, 32, 98]
def sx5 : W8 := [112, 111, 116, 32, 47, 32, 50]
def sc1 : Code := [⟨1, 0, [112, 111, 116]⟩, ⟨1, 0, [112, 97, 105, 100]⟩, ⟨0, 50, []⟩, ⟨6, 0, []⟩, ⟨3, 0, []⟩, ⟨14, 0, []⟩]
def sc2 : Code := [⟨1, 0, [112, 111, 116]⟩, ⟨0, 2, []⟩, ⟨5, 0, []⟩, ⟨1, 0, [112, 111, 116]⟩, ⟨0, 2, []⟩, ⟨5, 0, []⟩, ⟨2, 0, []⟩, ⟨14, 0, []⟩]
def sc3 : Code := [⟨1, 0, [97]⟩, ⟨1, 0, [98]⟩, ⟨9, 0, []⟩, ⟨13, 6, []⟩, ⟨0, 1, []⟩, ⟨12, 7, []⟩, ⟨0, 2, []⟩, ⟨14, 0, []⟩]
def sc4 : Code := [⟨1, 0, [97]⟩, ⟨13, 6, []⟩, ⟨1, 0, [98]⟩, ⟨11, 0, []⟩, ⟨11, 0, []⟩, ⟨12, 7, []⟩, ⟨0, 0, []⟩, ⟨14, 0, []⟩]
def hf : Let := ⟨[104, 97, 108, 102], (zde sx5).1⟩
theorem sp1 : zde sx1 = ((zde sx1).1, 0, 0) := by kernel_rfl
theorem sp2 : zde sx2 = ((zde sx2).1, 0, 0) := by kernel_rfl
theorem sp3 : zde sx3 = ((zde sx3).1, 0, 0) := by kernel_rfl
theorem sp4 : zde sx4 = ((zde sx4).1, 0, 0) := by kernel_rfl
theorem sp5 : zde sx5 = ((zde sx5).1, 0, 0) := by kernel_rfl
theorem sq1 : zcZ [] (zde sx1).1 = (sc1, 0) := by kernel_rfl
theorem sq2 : zcZ [hf] (zde sx2).1 = (sc2, 0) := by kernel_rfl
theorem sq3 : zcZ [] (zde sx3).1 = (sc3, 0) := by kernel_rfl
theorem sq4 : zcZ [] (zde sx4).1 = (sc4, 0) := by kernel_rfl
theorem zfC (n : Nat) (h : n < 10) : Lib.itoa (n : Int) = [UInt8.ofNat (48 + n)] := by
 rw [Lib.itoa, if_neg (by omega)];show Lib.decDigits n = _;rw [Lib.decDigits, dif_pos h]
theorem zq4 : Lib.itoa 50 = [53, 48] := by
 rw [Lib.itoa, if_neg (by decide)];show Lib.decDigits 50 = _;rw [Lib.decDigits, dif_neg (by decide), Lib.decDigits, dif_pos (by decide)];rfl
theorem its : Lib.itoa 0 = [48] /\ Lib.itoa 1 = [49] /\ Lib.itoa 2 = [50] /\ Lib.itoa 5 = [53] /\ Lib.itoa 6 = [54] /\ Lib.itoa 7 = [55] := ⟨zfC 0 (by decide), zfC 1 (by decide), zfC 2 (by decide), zfC 5 (by decide), zfC 6 (by decide), zfC 7 (by decide)⟩
theorem tl1 : zfq sc1 = [110, 97, 109, 101, 32, 112, 111, 116, 10, 110, 97, 109, 101, 32, 112, 97, 105, 100, 10, 110, 117, 109, 32, 53, 48, 10, 115, 99, 97, 108, 101, 10, 115, 117, 98, 10, 101, 110, 100, 10] := by
 have hr : zb8 sc1 = true := by kernel_rfl
 rw [zfq, if_pos hr];obtain ⟨i0, i1, i2, i5, i6, i7⟩ := its;simp [zdu, sc1, zfr, zd8, wordsL, zq4, i0, i1, i2, i5, i6, i7]
theorem tl2 : zfq sc2 = [110, 97, 109, 101, 32, 112, 111, 116, 10, 110, 117, 109, 32, 50, 10, 100, 105, 118, 10, 110, 97, 109, 101, 32, 112, 111, 116, 10, 110, 117, 109, 32, 50, 10, 100, 105, 118, 10, 97, 100, 100, 10, 101, 110, 100, 10] := by
 have hr : zb8 sc2 = true := by kernel_rfl
 rw [zfq, if_pos hr];obtain ⟨i0, i1, i2, i5, i6, i7⟩ := its;simp [zdu, sc2, zfr, zd8, wordsL, zq4, i0, i1, i2, i5, i6, i7]
theorem tl3 : zfq sc3 = [110, 97, 109, 101, 32, 97, 10, 110, 97, 109, 101, 32, 98, 10, 108, 101, 115, 115, 10, 102, 97, 108, 115, 101, 32, 54, 10, 110, 117, 109, 32, 49, 10, 106, 117, 109, 112, 32, 55, 10, 110, 117, 109, 32, 50, 10, 101, 110, 100, 10] := by
 have hr : zb8 sc3 = true := by kernel_rfl
 rw [zfq, if_pos hr];obtain ⟨i0, i1, i2, i5, i6, i7⟩ := its;simp [zdu, sc3, zfr, zd8, wordsL, zq4, i0, i1, i2, i5, i6, i7]
theorem tl4 : zfq sc4 = [110, 97, 109, 101, 32, 97, 10, 102, 97, 108, 115, 101, 32, 54, 10, 110, 97, 109, 101, 32, 98, 10, 110, 111, 116, 10, 110, 111, 116, 10, 106, 117, 109, 112, 32, 55, 10, 110, 117, 109, 32, 48, 10, 101, 110, 100, 10] := by
 have hr : zb8 sc4 = true := by kernel_rfl
 rw [zfq, if_pos hr];obtain ⟨i0, i1, i2, i5, i6, i7⟩ := its;simp [zdu, sc4, zfr, zd8, wordsL, zq4, i0, i1, i2, i5, i6, i7]
def sc5 : Code := [⟨0, 5, []⟩, ⟨14, 0, []⟩]
theorem sr5 : zb8 sc5 = true := by kernel_rfl
theorem tl5 : zdu sc5 = [110, 117, 109, 32, 53, 10, 101, 110, 100, 10] := by
 obtain ⟨i0, i1, i2, i5, i6, i7⟩ := its;simp [zdu, sc5, zfr, zd8, wordsL, i5]
theorem se5 : zjt [101, 110, 100, 10] = ([], 2) := by kernel_rfl
theorem zlJ : Fun Tryz.prog 9 [] (· = .u (.bool true)) := by
 have f1 := ze0 [] [] sx1 (zde sx1).1 sc1 rfl (by simp) sp1 sq1 (by decide) (by decide);have f2 := ze0 [hf] [sx5] sx2 (zde sx2).1 sc2 rfl (by
  intro i l b h1 h2;cases i with
  | zero => simp at h1 h2; subst h1 h2; exact sp5
  | succ i => simp at h1) sp2 sq2 (by decide) (by decide)
 have f3 := ze0 [] [] sx3 (zde sx3).1 sc3 rfl (by simp) sp3 sq3 (by decide) (by decide);have f4 := ze0 [] [] sx4 (zde sx4).1 sc4 rfl (by simp) sp4 sq4 (by decide) (by decide);rw [tl1] at f1;rw [tl2] at f2;rw [tl3] at f3;rw [tl4] at f4;have g1 := zmI (zdu sc5) (by rw [tl5]; decide);rw [zoP sr5, tl5] at g1;have g2 := zmI [101, 110, 100, 10] (by decide);rw [se5] at g2;have c1 := zeO sc5 (by decide);rw [sr5] at c1;have c2 := zeO [] (by decide);rw [show zb8 [] = false from rfl] at c2;have s1 := zpH sc5 sc5;rw [show decide (sc5 = sc5) = true by simp] at s1;simp [zos, Vm.inss, sc5, hf, sx1, sx2, sx3, sx4, sx5] at f1 f2 f3 f4 g1 g2 c1 c2 s1;refine Fun.run Tryz.func9 Tryz.ntmps9 Tryz.results9 rfl (by simp) fun Γ hn => ?_
 repeat' (first
  | (refine zaf rfl ?_; simp [zaj, zah, List.range_succ])
  | ((first | refine CallP.f2 rfl (f1) (by first | simp [zaj, zah, List.range_succ] <;> rfl | fail) ?_ | refine CallP.f2 rfl (f2) (by first | simp [zaj, zah, List.range_succ] <;> rfl | fail) ?_ | refine CallP.f2 rfl (f3) (by first | simp [zaj, zah, List.range_succ] <;> rfl | fail) ?_ | refine CallP.f2 rfl (f4) (by first | simp [zaj, zah, List.range_succ] <;> rfl | fail) ?_ | refine CallP.f2 rfl (g1) (by first | simp [zaj, zah, List.range_succ] <;> rfl | fail) ?_ | refine CallP.f2 rfl (g2) (by first | simp [zaj, zah, List.range_succ] <;> rfl | fail) ?_ | refine CallP.f2 rfl (c1) (by first | simp [zaj, zah, List.range_succ] <;> rfl | fail) ?_ | refine CallP.f2 rfl (c2) (by first | simp [zaj, zah, List.range_succ] <;> rfl | fail) ?_ | refine CallP.f2 rfl (s1) (by first | simp [zaj, zah, List.range_succ] <;> rfl | fail) ?_ | fail); simp [zaj, zah, List.range_succ])
  | fail)
 all_goals
  (refine Pst.of ?_; simp)
theorem zn7 (lets : List Let) (a b : Exp) (o : Int) (ho0 : 0 <= o) (ho1 : o <= 255) : Fun Tryz.prog 7 [.u (zaB lets), zcC a, zcC b, .u (.int .u8 o)] (· = .u (.bool true)) := by
 have h0 := zlJ;have h1 := zrB lets a;have h2 := zfI a 12 (by omega) (by omega);have h3 := zfI b 12 (by omega) (by omega);generalize (zt6 lets 4 30 && zpA a 30) = x1 at *;generalize zpA a 12 = x2 at *;generalize zpA b 12 = x3 at *;by_cases hfew : (x1 && x2 && x3) = true
 case neg =>
  simp only [zaB, zcC] at h1 h2 h3 ⊢;refine Fun.run Tryz.func7 Tryz.ntmps7 Tryz.results7 rfl (by simp) fun Γ hn => ?_
  repeat' (first
  | (refine Cnd.of (fun hc => ?_) (fun hc => ?_) <;> (try (exfalso; omega)) <;> (try simp))
  | (refine zaf rfl ?_; simp)
  | (refine And.intro (by omega) ?_)
  | (refine ⟨hC _ (by kernel_rfl), hk _ (zdb 8 _ _ _ ?_)⟩; clear hC hk C k; simp)
  | (refine zcP rfl (by kernel_rfl) (by kernel_rfl) (by simp [hn]) fun C k hC hk => ?_; simp)
  | (refine zcQ rfl ?_; simp)
  | (refine zcR ?_; simp)
  | (refine zcT rfl rfl ?_; simp)
  | (refine zcS (hC _ _ (by kernel_rfl) (by kernel_rfl)) (hk _ (zdb 8 _ _ _ ?_)); clear hC hk C k; simp [St.ins, zgv, zih, zad, zaa])
  | (refine zdX rfl (by kernel_rfl) (by first | (simp [hn]; done) | (simp [hn]; omega) | fail) fun C k hC hk => ?_; simp)
  | (refine zb9 rfl ?_; simp)
  | (refine zcg rfl ?_; simp)
  | (refine zbs rfl ?_; simp)
  | (refine And.intro ?_ (by omega))
  | (refine And.intro (fun hc => ?_) (fun hc => ?_) <;> (try (exfalso; omega)))
  | (intro hc <;> (try (exfalso; omega)))
  | ((first | refine CallP.f2 rfl (h0) (by first | simp <;> rfl | fail) ?_ | refine CallP.f2 rfl (h1) (by first | simp <;> rfl | fail) ?_ | refine CallP.f2 rfl (h2) (by first | simp <;> rfl | fail) ?_ | refine CallP.f2 rfl (h3) (by first | simp <;> rfl | fail) ?_ | fail); simp)
  | ((first | refine CallV.f2 rfl (h0) (by first | simp <;> rfl | fail) ?_ | refine CallV.f2 rfl (h1) (by first | simp <;> rfl | fail) ?_ | refine CallV.f2 rfl (h2) (by first | simp <;> rfl | fail) ?_ | refine CallV.f2 rfl (h3) (by first | simp <;> rfl | fail) ?_ | fail); simp))
  all_goals first
   | ((refine Pst.of ?_; simp); done)
   | (exfalso; apply hfew; simp_all; done)
 obtain ⟨⟨rfl, rfl⟩, rfl⟩ : (x1 = true /\ x2 = true) /\ x3 = true := by simpa using hfew
 clear hfew;obtain ⟨kk, hk8, hko⟩ : ∃ kk : Nat, kk < 8 /\ o.tmod 8 = kk := by
  refine ⟨(o % 8).toNat, by omega, ?_⟩;rw [Int.tmod_eq_emod_of_nonneg ho0];omega
 obtain ⟨op, o2, o9, hk1, hk2⟩ := zq0 hk8;have hk1e := (List.getElem?_eq_some_iff.1 hk1).2;have hk2e := (List.getElem?_eq_some_iff.1 hk2).2;have h4 := ze6 lets a;have h5 := ze6 lets b;have h6 := ze6 lets (.mk op 0 0 [] [a, b]);have herr := @zoW lets op a b o2 o9;have hop := fun l m n ha hb hx => @zsX lets op a b l m n o2 o9 ha hb hx;generalize zcZ lets (.mk op 0 0 [] [a, b]) = cx at *;generalize zcZ lets a = ca at *;generalize zcZ lets b = cb at *;obtain ⟨l, e⟩ := ca;obtain ⟨m, f⟩ := cb;obtain ⟨n, g⟩ := cx;simp only at herr;have hsa := ziF lets a;have hsb := ziF lets b;simp only [zaB, zcC, Vm.inss, zuN, zyj, zyh, zyi, zyk, List.map_cons, List.map_nil, Exp.row_eq a, Exp.row_eq b] at h1 h2 h3 h4 h5 h6 hsa hsb ⊢;by_cases hall : e = 0 /\ f = 0 /\ g = 0
 case neg =>
  clear hop hsa hsb;have hkey := herr hall;clear herr;rcases hkey with ⟨rfl, rfl, rfl⟩ | rfl | rfl | rfl
  all_goals
   refine Fun.run Tryz.func7 Tryz.ntmps7 Tryz.results7 rfl (by simp) fun Γ hn => ?_
   repeat' (first
  | (refine Cnd.of (fun hc => ?_) (fun hc => ?_) <;> (try (exfalso; omega)) <;> (try simp [hko, hk8, hk1e, hk2e, zaj, zah, List.range_succ]))
  | (refine zaf rfl ?_; simp [hko, hk8, hk1e, hk2e, zaj, zah, List.range_succ])
  | (refine And.intro (by omega) ?_)
  | (refine ⟨hC _ (by kernel_rfl), hk _ (zdb 8 _ _ _ ?_)⟩; clear hC hk C k; simp [hko, hk8, hk1e, hk2e, zaj, zah, List.range_succ])
  | (refine zcP rfl (by kernel_rfl) (by kernel_rfl) (by simp [hn]) fun C k hC hk => ?_; simp [hko, hk8, hk1e, hk2e, zaj, zah, List.range_succ])
  | (refine zcQ rfl ?_; simp [hko, hk8, hk1e, hk2e, zaj, zah, List.range_succ])
  | (refine zcR ?_; simp [hko, hk8, hk1e, hk2e, zaj, zah, List.range_succ])
  | (refine zcT rfl rfl ?_; simp [hko, hk8, hk1e, hk2e, zaj, zah, List.range_succ])
  | (refine zcS (hC _ _ (by kernel_rfl) (by kernel_rfl)) (hk _ (zdb 8 _ _ _ ?_)); clear hC hk C k; simp [St.ins, zgv, zih, zad, zaa])
  | (refine zdX rfl (by kernel_rfl) (by first | (simp [hn]; done) | (simp [hn]; omega) | fail) fun C k hC hk => ?_; simp [hko, hk8, hk1e, hk2e, zaj, zah, List.range_succ])
  | (refine zb9 rfl ?_; simp [hko, hk8, hk1e, hk2e, zaj, zah, List.range_succ])
  | (refine zcg rfl ?_; simp [hko, hk8, hk1e, hk2e, zaj, zah, List.range_succ])
  | (refine zbs rfl ?_; simp [hko, hk8, hk1e, hk2e, zaj, zah, List.range_succ])
  | (refine And.intro ?_ (by omega))
  | (refine And.intro (fun hc => ?_) (fun hc => ?_) <;> (try (exfalso; omega)))
  | (intro hc <;> (try (exfalso; omega)))
  | ((first | refine CallP.f2 rfl (h0) (by first | simp [hko, hk8, hk1e, hk2e, zaj, zah, List.range_succ] <;> rfl | fail) ?_ | refine CallP.f2 rfl (h1) (by first | simp [hko, hk8, hk1e, hk2e, zaj, zah, List.range_succ] <;> rfl | fail) ?_ | refine CallP.f2 rfl (h2) (by first | simp [hko, hk8, hk1e, hk2e, zaj, zah, List.range_succ] <;> rfl | fail) ?_ | refine CallP.f2 rfl (h3) (by first | simp [hko, hk8, hk1e, hk2e, zaj, zah, List.range_succ] <;> rfl | fail) ?_ | refine CallP.f2 rfl (h4) (by first | simp [hko, hk8, hk1e, hk2e, zaj, zah, List.range_succ] <;> rfl | fail) ?_ | refine CallP.f2 rfl (h5) (by first | simp [hko, hk8, hk1e, hk2e, zaj, zah, List.range_succ] <;> rfl | fail) ?_ | refine CallP.f2 rfl (h6) (by first | simp [hko, hk8, hk1e, hk2e, zaj, zah, List.range_succ] <;> rfl | fail) ?_ | fail); simp [hko, hk8, hk1e, hk2e, zaj, zah, List.range_succ])
  | ((first | refine CallV.f2 rfl (h0) (by first | simp [hko, hk8, hk1e, hk2e, zaj, zah, List.range_succ] <;> rfl | fail) ?_ | refine CallV.f2 rfl (h1) (by first | simp [hko, hk8, hk1e, hk2e, zaj, zah, List.range_succ] <;> rfl | fail) ?_ | refine CallV.f2 rfl (h2) (by first | simp [hko, hk8, hk1e, hk2e, zaj, zah, List.range_succ] <;> rfl | fail) ?_ | refine CallV.f2 rfl (h3) (by first | simp [hko, hk8, hk1e, hk2e, zaj, zah, List.range_succ] <;> rfl | fail) ?_ | refine CallV.f2 rfl (h4) (by first | simp [hko, hk8, hk1e, hk2e, zaj, zah, List.range_succ] <;> rfl | fail) ?_ | refine CallV.f2 rfl (h5) (by first | simp [hko, hk8, hk1e, hk2e, zaj, zah, List.range_succ] <;> rfl | fail) ?_ | refine CallV.f2 rfl (h6) (by first | simp [hko, hk8, hk1e, hk2e, zaj, zah, List.range_succ] <;> rfl | fail) ?_ | fail); simp [hko, hk8, hk1e, hk2e, zaj, zah, List.range_succ]))
   all_goals first
    | ((refine Pst.of ?_; simp); done)
    | (exfalso; omega)
 obtain ⟨rfl, rfl, rfl⟩ := hall;clear herr;obtain ⟨A, B, lA, lB, lN, hAB, f1, f2, f3, f4⟩ := hop l m n rfl rfl rfl;clear hop;have hA : A <= 2000 := by omega
 have hB : B <= 2000 := by omega
 refine Fun.run Tryz.func7 Tryz.ntmps7 Tryz.results7 rfl (by simp) fun Γ hn => ?_
 repeat' (first
  | (refine Cnd.of (fun hc => ?_) (fun hc => ?_) <;> (try (exfalso; omega)) <;> (try simp [hko, hk8, hk1e, hk2e, zaj, zah, List.range_succ, lA, lB, lN]))
  | (refine zaf rfl ?_; simp [hko, hk8, hk1e, hk2e, zaj, zah, List.range_succ, lA, lB, lN])
  | (refine And.intro (by omega) ?_)
  | (refine ⟨hC _ (by kernel_rfl), hk _ (zdb 8 _ _ _ ?_)⟩; clear hC hk C k; simp [hko, hk8, hk1e, hk2e, zaj, zah, List.range_succ, lA, lB, lN])
  | (refine zcP rfl (by kernel_rfl) (by kernel_rfl) (by simp [hn]) fun C k hC hk => ?_; simp [hko, hk8, hk1e, hk2e, zaj, zah, List.range_succ, lA, lB, lN])
  | (refine zcQ rfl ?_; simp [hko, hk8, hk1e, hk2e, zaj, zah, List.range_succ, lA, lB, lN])
  | (refine zcR ?_; simp [hko, hk8, hk1e, hk2e, zaj, zah, List.range_succ, lA, lB, lN])
  | (refine zcT rfl rfl ?_; simp [hko, hk8, hk1e, hk2e, zaj, zah, List.range_succ, lA, lB, lN])
  | (refine zcS (hC _ _ (by kernel_rfl) (by kernel_rfl)) (hk _ (zdb 8 _ _ _ ?_)); clear hC hk C k; simp [St.ins, zgv, zih, zad, zaa])
  | (refine zdX rfl (by kernel_rfl) (by first | (simp [hn]; done) | (simp [hn]; omega) | fail) fun C k hC hk => ?_; simp [hko, hk8, hk1e, hk2e, zaj, zah, List.range_succ, lA, lB, lN])
  | (refine zb9 rfl ?_; simp [hko, hk8, hk1e, hk2e, zaj, zah, List.range_succ, lA, lB, lN])
  | (refine zcg rfl ?_; simp [hko, hk8, hk1e, hk2e, zaj, zah, List.range_succ, lA, lB, lN])
  | (refine zbs rfl ?_; simp [hko, hk8, hk1e, hk2e, zaj, zah, List.range_succ, lA, lB, lN])
  | (refine And.intro ?_ (by omega))
  | (refine And.intro (fun hc => ?_) (fun hc => ?_) <;> (try (exfalso; omega)))
  | (intro hc <;> (try (exfalso; omega)))
  | ((first | refine CallP.f2 rfl (h0) (by first | simp [hko, hk8, hk1e, hk2e, zaj, zah, List.range_succ, lA, lB, lN] <;> rfl | fail) ?_ | refine CallP.f2 rfl (h1) (by first | simp [hko, hk8, hk1e, hk2e, zaj, zah, List.range_succ, lA, lB, lN] <;> rfl | fail) ?_ | refine CallP.f2 rfl (h2) (by first | simp [hko, hk8, hk1e, hk2e, zaj, zah, List.range_succ, lA, lB, lN] <;> rfl | fail) ?_ | refine CallP.f2 rfl (h3) (by first | simp [hko, hk8, hk1e, hk2e, zaj, zah, List.range_succ, lA, lB, lN] <;> rfl | fail) ?_ | refine CallP.f2 rfl (h4) (by first | simp [hko, hk8, hk1e, hk2e, zaj, zah, List.range_succ, lA, lB, lN] <;> rfl | fail) ?_ | refine CallP.f2 rfl (h5) (by first | simp [hko, hk8, hk1e, hk2e, zaj, zah, List.range_succ, lA, lB, lN] <;> rfl | fail) ?_ | refine CallP.f2 rfl (h6) (by first | simp [hko, hk8, hk1e, hk2e, zaj, zah, List.range_succ, lA, lB, lN] <;> rfl | fail) ?_ | fail); simp [hko, hk8, hk1e, hk2e, zaj, zah, List.range_succ, lA, lB, lN])
  | ((first | refine CallV.f2 rfl (h0) (by first | simp [hko, hk8, hk1e, hk2e, zaj, zah, List.range_succ, lA, lB, lN] <;> rfl | fail) ?_ | refine CallV.f2 rfl (h1) (by first | simp [hko, hk8, hk1e, hk2e, zaj, zah, List.range_succ, lA, lB, lN] <;> rfl | fail) ?_ | refine CallV.f2 rfl (h2) (by first | simp [hko, hk8, hk1e, hk2e, zaj, zah, List.range_succ, lA, lB, lN] <;> rfl | fail) ?_ | refine CallV.f2 rfl (h3) (by first | simp [hko, hk8, hk1e, hk2e, zaj, zah, List.range_succ, lA, lB, lN] <;> rfl | fail) ?_ | refine CallV.f2 rfl (h4) (by first | simp [hko, hk8, hk1e, hk2e, zaj, zah, List.range_succ, lA, lB, lN] <;> rfl | fail) ?_ | refine CallV.f2 rfl (h5) (by first | simp [hko, hk8, hk1e, hk2e, zaj, zah, List.range_succ, lA, lB, lN] <;> rfl | fail) ?_ | refine CallV.f2 rfl (h6) (by first | simp [hko, hk8, hk1e, hk2e, zaj, zah, List.range_succ, lA, lB, lN] <;> rfl | fail) ?_ | fail); simp [hko, hk8, hk1e, hk2e, zaj, zah, List.range_succ, lA, lB, lN]))
 refine zdh (α := { i : Nat // i <= A }) [0, 5, 6, 9, 10, 11, 12, 13, 15, 18, 20] (fun i => [(21, .u (.int .i64 i.1))]) (fun i => A - i.1) ⟨0, by omega⟩ ?_ ?_
 ·exact (Wk.zem (by simp [hn, del, zac] <;> grind))
 rintro ⟨i, hi⟩;simp;by_cases hlt : i < A
 ·obtain ⟨y, y1, y2⟩ := f1 i hlt
  repeat' (first
  | (refine Cnd.of (fun hc => ?_) (fun hc => ?_) <;> (try (exfalso; omega)) <;> (try simp [y1, y2, hlt]))
  | (refine zaf rfl ?_; simp [y1, y2, hlt])
  | (refine And.intro (by omega) ?_)
  | (refine ⟨hC _ (by kernel_rfl), hk _ (zdb 8 _ _ _ ?_)⟩; clear hC hk C k; simp [y1, y2, hlt])
  | (refine zcP rfl (by kernel_rfl) (by kernel_rfl) (by simp [hn]) fun C k hC hk => ?_; simp [y1, y2, hlt])
  | (refine zcQ rfl ?_; simp [y1, y2, hlt])
  | (refine zcR ?_; simp [y1, y2, hlt])
  | (refine zcT rfl rfl ?_; simp [y1, y2, hlt])
  | (refine zcS (hC _ _ (by kernel_rfl) (by kernel_rfl)) (hk _ (zdb 8 _ _ _ ?_)); clear hC hk C k; simp [St.ins, zgv, zih, zad, zaa])
  | (refine zdX rfl (by kernel_rfl) (by first | (simp [hn]; done) | (simp [hn]; omega) | fail) fun C k hC hk => ?_; simp [y1, y2, hlt])
  | (refine zb9 rfl ?_; simp [y1, y2, hlt])
  | (refine zcg rfl ?_; simp [y1, y2, hlt])
  | (refine zbs rfl ?_; simp [y1, y2, hlt])
  | (refine And.intro ?_ (by omega))
  | (refine And.intro (fun hc => ?_) (fun hc => ?_) <;> (try (exfalso; omega)))
  | (intro hc <;> (try (exfalso; omega))))
  refine LoopW.next ⟨i + 1, by omega⟩ (by simp; omega) ?_
  exact (Wk.zem (by simp [hn, del, zac] <;> grind))
 obtain rfl : i = A := by omega
 repeat' (first
  | (refine Cnd.of (fun hc => ?_) (fun hc => ?_) <;> (try (exfalso; omega)) <;> (try simp [lA, lB, lN]))
  | (refine zaf rfl ?_; simp [lA, lB, lN])
  | (refine And.intro (by omega) ?_)
  | (refine ⟨hC _ (by kernel_rfl), hk _ (zdb 8 _ _ _ ?_)⟩; clear hC hk C k; simp [lA, lB, lN])
  | (refine zcP rfl (by kernel_rfl) (by kernel_rfl) (by simp [hn]) fun C k hC hk => ?_; simp [lA, lB, lN])
  | (refine zcQ rfl ?_; simp [lA, lB, lN])
  | (refine zcR ?_; simp [lA, lB, lN])
  | (refine zcT rfl rfl ?_; simp [lA, lB, lN])
  | (refine zcS (hC _ _ (by kernel_rfl) (by kernel_rfl)) (hk _ (zdb 8 _ _ _ ?_)); clear hC hk C k; simp [St.ins, zgv, zih, zad, zaa])
  | (refine zdX rfl (by kernel_rfl) (by first | (simp [hn]; done) | (simp [hn]; omega) | fail) fun C k hC hk => ?_; simp [lA, lB, lN])
  | (refine zb9 rfl ?_; simp [lA, lB, lN])
  | (refine zcg rfl ?_; simp [lA, lB, lN])
  | (refine zbs rfl ?_; simp [lA, lB, lN])
  | (refine And.intro ?_ (by omega))
  | (refine And.intro (fun hc => ?_) (fun hc => ?_) <;> (try (exfalso; omega)))
  | (intro hc <;> (try (exfalso; omega))))
 refine zdh (α := { j : Nat // j <= B }) [0, 5, 6, 9, 10, 11, 12, 15, 18, 20] (fun j => [(22, .u (.int .i64 j.1))]) (fun j => B - j.1) ⟨0, by omega⟩ ?_ ?_
 ·exact (Wk.zem (by simp [hn, del, zac] <;> grind))
 rintro ⟨j, hj⟩;simp;by_cases hlt2 : j < B
 ·obtain ⟨y, y1, y2, y3, y4⟩ := f2 j hlt2;have hidx : ((i : Int) + j).toNat = i + j := by omega
  unfold mvI at y2;by_cases hy : y.op = 12 \/ y.op = 13
  ·rw [if_pos hy] at y2;rcases hy with hy | hy
   ·have q12 : (y.op = 12) = True := eq_true hy
    repeat' (first
  | (refine Cnd.of (fun hc => ?_) (fun hc => ?_) <;> (try (exfalso; omega)) <;> (try simp [y1, y2, hlt2, hidx, q12, lB]))
  | (refine zaf rfl ?_; simp [y1, y2, hlt2, hidx, q12, lB])
  | (refine And.intro (by omega) ?_)
  | (refine ⟨hC _ (by kernel_rfl), hk _ (zdb 8 _ _ _ ?_)⟩; clear hC hk C k; simp [y1, y2, hlt2, hidx, q12, lB])
  | (refine zcP rfl (by kernel_rfl) (by kernel_rfl) (by simp [hn]) fun C k hC hk => ?_; simp [y1, y2, hlt2, hidx, q12, lB])
  | (refine zcQ rfl ?_; simp [y1, y2, hlt2, hidx, q12, lB])
  | (refine zcR ?_; simp [y1, y2, hlt2, hidx, q12, lB])
  | (refine zcT rfl rfl ?_; simp [y1, y2, hlt2, hidx, q12, lB])
  | (refine zcS (hC _ _ (by kernel_rfl) (by kernel_rfl)) (hk _ (zdb 8 _ _ _ ?_)); clear hC hk C k; simp [St.ins, zgv, zih, zad, zaa])
  | (refine zdX rfl (by kernel_rfl) (by first | (simp [hn]; done) | (simp [hn]; omega) | fail) fun C k hC hk => ?_; simp [y1, y2, hlt2, hidx, q12, lB])
  | (refine zb9 rfl ?_; simp [y1, y2, hlt2, hidx, q12, lB])
  | (refine zcg rfl ?_; simp [y1, y2, hlt2, hidx, q12, lB])
  | (refine zbs rfl ?_; simp [y1, y2, hlt2, hidx, q12, lB])
  | (refine And.intro ?_ (by omega))
  | (refine And.intro (fun hc => ?_) (fun hc => ?_) <;> (try (exfalso; omega)))
  | (intro hc <;> (try (exfalso; omega))))
    refine LoopW.next ⟨j + 1, by omega⟩ (by simp; omega) ?_
    exact (Wk.zem (by simp [hn, del, zac] <;> grind))
   ·have q12 : (y.op = 12) = False := eq_false (by omega);have q13 : (y.op = 13) = True := eq_true hy
    repeat' (first
  | (refine Cnd.of (fun hc => ?_) (fun hc => ?_) <;> (try (exfalso; omega)) <;> (try simp [y1, y2, hlt2, hidx, q12, q13, lB]))
  | (refine zaf rfl ?_; simp [y1, y2, hlt2, hidx, q12, q13, lB])
  | (refine And.intro (by omega) ?_)
  | (refine ⟨hC _ (by kernel_rfl), hk _ (zdb 8 _ _ _ ?_)⟩; clear hC hk C k; simp [y1, y2, hlt2, hidx, q12, q13, lB])
  | (refine zcP rfl (by kernel_rfl) (by kernel_rfl) (by simp [hn]) fun C k hC hk => ?_; simp [y1, y2, hlt2, hidx, q12, q13, lB])
  | (refine zcQ rfl ?_; simp [y1, y2, hlt2, hidx, q12, q13, lB])
  | (refine zcR ?_; simp [y1, y2, hlt2, hidx, q12, q13, lB])
  | (refine zcT rfl rfl ?_; simp [y1, y2, hlt2, hidx, q12, q13, lB])
  | (refine zcS (hC _ _ (by kernel_rfl) (by kernel_rfl)) (hk _ (zdb 8 _ _ _ ?_)); clear hC hk C k; simp [St.ins, zgv, zih, zad, zaa])
  | (refine zdX rfl (by kernel_rfl) (by first | (simp [hn]; done) | (simp [hn]; omega) | fail) fun C k hC hk => ?_; simp [y1, y2, hlt2, hidx, q12, q13, lB])
  | (refine zb9 rfl ?_; simp [y1, y2, hlt2, hidx, q12, q13, lB])
  | (refine zcg rfl ?_; simp [y1, y2, hlt2, hidx, q12, q13, lB])
  | (refine zbs rfl ?_; simp [y1, y2, hlt2, hidx, q12, q13, lB])
  | (refine And.intro ?_ (by omega))
  | (refine And.intro (fun hc => ?_) (fun hc => ?_) <;> (try (exfalso; omega)))
  | (intro hc <;> (try (exfalso; omega))))
    refine LoopW.next ⟨j + 1, by omega⟩ (by simp; omega) ?_
    exact (Wk.zem (by simp [hn, del, zac] <;> grind))
  ·rw [if_neg hy] at y2;have q12 : (y.op = 12) = False := eq_false (by omega);have q13 : (y.op = 13) = False := eq_false (by omega)
   repeat' (first
  | (refine Cnd.of (fun hc => ?_) (fun hc => ?_) <;> (try (exfalso; omega)) <;> (try simp [y1, y2, hlt2, hidx, q12, q13, lB]))
  | (refine zaf rfl ?_; simp [y1, y2, hlt2, hidx, q12, q13, lB])
  | (refine And.intro (by omega) ?_)
  | (refine ⟨hC _ (by kernel_rfl), hk _ (zdb 8 _ _ _ ?_)⟩; clear hC hk C k; simp [y1, y2, hlt2, hidx, q12, q13, lB])
  | (refine zcP rfl (by kernel_rfl) (by kernel_rfl) (by simp [hn]) fun C k hC hk => ?_; simp [y1, y2, hlt2, hidx, q12, q13, lB])
  | (refine zcQ rfl ?_; simp [y1, y2, hlt2, hidx, q12, q13, lB])
  | (refine zcR ?_; simp [y1, y2, hlt2, hidx, q12, q13, lB])
  | (refine zcT rfl rfl ?_; simp [y1, y2, hlt2, hidx, q12, q13, lB])
  | (refine zcS (hC _ _ (by kernel_rfl) (by kernel_rfl)) (hk _ (zdb 8 _ _ _ ?_)); clear hC hk C k; simp [St.ins, zgv, zih, zad, zaa])
  | (refine zdX rfl (by kernel_rfl) (by first | (simp [hn]; done) | (simp [hn]; omega) | fail) fun C k hC hk => ?_; simp [y1, y2, hlt2, hidx, q12, q13, lB])
  | (refine zb9 rfl ?_; simp [y1, y2, hlt2, hidx, q12, q13, lB])
  | (refine zcg rfl ?_; simp [y1, y2, hlt2, hidx, q12, q13, lB])
  | (refine zbs rfl ?_; simp [y1, y2, hlt2, hidx, q12, q13, lB])
  | (refine And.intro ?_ (by omega))
  | (refine And.intro (fun hc => ?_) (fun hc => ?_) <;> (try (exfalso; omega)))
  | (intro hc <;> (try (exfalso; omega))))
   refine LoopW.next ⟨j + 1, by omega⟩ (by simp; omega) ?_
   exact (Wk.zem (by simp [hn, del, zac] <;> grind))
 obtain rfl : j = B := by omega
 unfold ztW at f3;generalize zd5 lets a = s1 at *;generalize zd5 lets b = s2 at *;have n1 : ((i : Int) + j).toNat = i + j := by omega
 have n3 : ((i : Int) + j + 1).toNat = i + j + 1 := by omega
 have n2 : ((i : Int) + j + 2 - 1).toNat = i + j + 1 := by omega
 by_cases h4op : op = 4
 ·subst h4op;cases s1 <;> cases s2
  all_goals
   simp at f3;have f3e := (List.getElem?_eq_some_iff.1 f3).2;have f4e := (List.getElem?_eq_some_iff.1 f4).2
   repeat' (first
  | (refine Cnd.of (fun hc => ?_) (fun hc => ?_) <;> (try (exfalso; omega)) <;> (try simp [hko, hk8, hk1e, hk2e, lA, lB, lN, f3e, f4e, n1, n2, n3]))
  | (refine zaf rfl ?_; simp [hko, hk8, hk1e, hk2e, lA, lB, lN, f3e, f4e, n1, n2, n3])
  | (refine And.intro (by omega) ?_)
  | (refine ⟨hC _ (by kernel_rfl), hk _ (zdb 8 _ _ _ ?_)⟩; clear hC hk C k; simp [hko, hk8, hk1e, hk2e, lA, lB, lN, f3e, f4e, n1, n2, n3])
  | (refine zcP rfl (by kernel_rfl) (by kernel_rfl) (by simp [hn]) fun C k hC hk => ?_; simp [hko, hk8, hk1e, hk2e, lA, lB, lN, f3e, f4e, n1, n2, n3])
  | (refine zcQ rfl ?_; simp [hko, hk8, hk1e, hk2e, lA, lB, lN, f3e, f4e, n1, n2, n3])
  | (refine zcR ?_; simp [hko, hk8, hk1e, hk2e, lA, lB, lN, f3e, f4e, n1, n2, n3])
  | (refine zcT rfl rfl ?_; simp [hko, hk8, hk1e, hk2e, lA, lB, lN, f3e, f4e, n1, n2, n3])
  | (refine zcS (hC _ _ (by kernel_rfl) (by kernel_rfl)) (hk _ (zdb 8 _ _ _ ?_)); clear hC hk C k; simp [St.ins, zgv, zih, zad, zaa])
  | (refine zdX rfl (by kernel_rfl) (by first | (simp [hn]; done) | (simp [hn]; omega) | fail) fun C k hC hk => ?_; simp [hko, hk8, hk1e, hk2e, lA, lB, lN, f3e, f4e, n1, n2, n3])
  | (refine zb9 rfl ?_; simp [hko, hk8, hk1e, hk2e, lA, lB, lN, f3e, f4e, n1, n2, n3])
  | (refine zcg rfl ?_; simp [hko, hk8, hk1e, hk2e, lA, lB, lN, f3e, f4e, n1, n2, n3])
  | (refine zbs rfl ?_; simp [hko, hk8, hk1e, hk2e, lA, lB, lN, f3e, f4e, n1, n2, n3])
  | (refine And.intro ?_ (by omega))
  | (refine And.intro (fun hc => ?_) (fun hc => ?_) <;> (try (exfalso; omega)))
  | (intro hc <;> (try (exfalso; omega)))
  | ((first | refine CallP.f2 rfl (hsa) (by first | simp [hko, hk8, hk1e, hk2e, lA, lB, lN, f3e, f4e, n1, n2, n3] <;> rfl | fail) ?_ | refine CallP.f2 rfl (hsb) (by first | simp [hko, hk8, hk1e, hk2e, lA, lB, lN, f3e, f4e, n1, n2, n3] <;> rfl | fail) ?_ | fail); simp [hko, hk8, hk1e, hk2e, lA, lB, lN, f3e, f4e, n1, n2, n3])
  | ((first | refine CallV.f2 rfl (hsa) (by first | simp [hko, hk8, hk1e, hk2e, lA, lB, lN, f3e, f4e, n1, n2, n3] <;> rfl | fail) ?_ | refine CallV.f2 rfl (hsb) (by first | simp [hko, hk8, hk1e, hk2e, lA, lB, lN, f3e, f4e, n1, n2, n3] <;> rfl | fail) ?_ | fail); simp [hko, hk8, hk1e, hk2e, lA, lB, lN, f3e, f4e, n1, n2, n3]))
   (refine Pst.of ?_; simp)
 ·rw [if_neg (fun h => h4op h.1)] at f3;generalize (if op <= 5 then op else op + 1) = ow at *;have f3e := (List.getElem?_eq_some_iff.1 f3).2;have f4e := (List.getElem?_eq_some_iff.1 f4).2
  repeat' (first
  | (refine Cnd.of (fun hc => ?_) (fun hc => ?_) <;> (try (exfalso; omega)) <;> (try simp [hko, hk8, hk1e, hk2e, lA, lB, lN, f3e, f4e, n1, n2, n3, h4op]))
  | (refine zaf rfl ?_; simp [hko, hk8, hk1e, hk2e, lA, lB, lN, f3e, f4e, n1, n2, n3, h4op])
  | (refine And.intro (by omega) ?_)
  | (refine ⟨hC _ (by kernel_rfl), hk _ (zdb 8 _ _ _ ?_)⟩; clear hC hk C k; simp [hko, hk8, hk1e, hk2e, lA, lB, lN, f3e, f4e, n1, n2, n3, h4op])
  | (refine zcP rfl (by kernel_rfl) (by kernel_rfl) (by simp [hn]) fun C k hC hk => ?_; simp [hko, hk8, hk1e, hk2e, lA, lB, lN, f3e, f4e, n1, n2, n3, h4op])
  | (refine zcQ rfl ?_; simp [hko, hk8, hk1e, hk2e, lA, lB, lN, f3e, f4e, n1, n2, n3, h4op])
  | (refine zcR ?_; simp [hko, hk8, hk1e, hk2e, lA, lB, lN, f3e, f4e, n1, n2, n3, h4op])
  | (refine zcT rfl rfl ?_; simp [hko, hk8, hk1e, hk2e, lA, lB, lN, f3e, f4e, n1, n2, n3, h4op])
  | (refine zcS (hC _ _ (by kernel_rfl) (by kernel_rfl)) (hk _ (zdb 8 _ _ _ ?_)); clear hC hk C k; simp [St.ins, zgv, zih, zad, zaa])
  | (refine zdX rfl (by kernel_rfl) (by first | (simp [hn]; done) | (simp [hn]; omega) | fail) fun C k hC hk => ?_; simp [hko, hk8, hk1e, hk2e, lA, lB, lN, f3e, f4e, n1, n2, n3, h4op])
  | (refine zb9 rfl ?_; simp [hko, hk8, hk1e, hk2e, lA, lB, lN, f3e, f4e, n1, n2, n3, h4op])
  | (refine zcg rfl ?_; simp [hko, hk8, hk1e, hk2e, lA, lB, lN, f3e, f4e, n1, n2, n3, h4op])
  | (refine zbs rfl ?_; simp [hko, hk8, hk1e, hk2e, lA, lB, lN, f3e, f4e, n1, n2, n3, h4op])
  | (refine And.intro ?_ (by omega))
  | (refine And.intro (fun hc => ?_) (fun hc => ?_) <;> (try (exfalso; omega)))
  | (intro hc <;> (try (exfalso; omega))))
  (refine Pst.of ?_; simp)
end Go.Proofs.YtkdhmbhbbciedaaGreatDoor
