import Derived.Test.YtmlpcgkaonifcaaGreatDoorB6
set_option linter.all false
set_option maxRecDepth 100000
set_option maxHeartbeats 8000000
namespace Go.Proofs.YtmlpcgkaonifcaaGreatDoor
open Go Go.VL
attribute [local simp] HS zbw zc2 zcq evPure opd uOf zay St.put St.at getK binD binI binS binB nilD aggD zfJ zge lookD lookR zcn rangeS Go.VL.nextD Go.VL.nextS zcr zgk zgh zfs zcv mkV zbi zaT zaS zaR zc0 zaP zba zbs mapEff zdE zfp Key.kk shiftI arith unD convD zdu loadD cellsAt fieldAddrD fieldD indexAddrD indexSlD arrAddr indexD sliceD cutD lenD minmaxD nilCheckD buildD fillD zb0 zc7 zeD setAll zcW zef zck zfv zcj St.add zaw zbB rowsOf zdg zcw zad zac zaa zbz zda za3 entry zbO zbT valD zcm zcB zfw zdb zdc zb4 zbP zam zaW zbj delAll effD St.effS zcF zaU zaH zcG zaV zaJ zbY zaI zaA zbZ zcD zbv zbX za9 zbV zbW zar mkD zcl zbG zbK zam zcu D.ids Op.operands Call.operands zbH makeIfD makeFuncD typeAssertD zgd zdm zdn zf8 zco IntKind.bits zct zaz List.take_of_length_le List.range_succ zcO zcf zcP zcK zbD zb6 zb8 zcL zca zbe zb9 zb7 zhc zce zcM zaZ zaL zcN za0 zaN zcd zaM zaF zcS zcT zha zab frzN frz1 zav zau St.frz St.frzS frzS fv za1 zbm zbn frzObS zat zan frz zbL zbq zbr zbN zb5 zcc za7 St.norm St.lp St.only zax wkE wkO wkU Ob.under D.under zaj zak zcQ zcg zcR h4s zea zaC zbC List.zipIdx_cons List.zipIdx_nil zzC zzD Nat.zero_add
attribute [local irreducible] V G H HD HD2 HD4 zhd RetX zbf Eff CallP CallV EndOK Fun Ret FinOK LoopI LoopW EndW HR vs2 RN Cnd H4
theorem zwu {l : List Tok} {F : FuncId} {r : PR (Exp × Int)} {e : Exp × Int} {q i nx : Nat} {ds : List D} {obs : List (Nat × Ob)} (h : RetX Tryz.prog F ds obs nx (PPost l i nx zlA r)) (hr : r = .ok e q) :
  RetX Tryz.prog F ds obs nx fun r o n => r = .val (.tup [.u (.agg [.int .i64 e.1.op, .int .i64 e.1.n, .int .i64 e.1.unit, .str e.1.s, .sl (e.1.args.map Exp.row)]), .u (.int .i64 e.2)]) /\ o = [(i, pOb l q)] /\ n = nx := by
 subst hr;rw [<- Exp.row_eq];exact h
abbrev zx0 (e : Exp) : Ob := .box [.u (.int .i64 e.op), .u (.int .i64 e.n), .u (.int .i64 e.unit), .u (.str e.s), .u (.sl (e.args.map Exp.row))]
theorem ztH {l : List Tok} (hl : TokOK l) {f : Nat} (hE : ∀ g, g < f -> zhZ l g) (hP : zv6 l f) : zhZ l (f + 1) := by
 intro p form i nx hi hp hf hm0 hm7;have hne := zbl hi;have hll := hl.len;rw [zfu];have ha := fun nx' (h : nx <= nx') => hP p form i nx' (by omega) hp (by omega) hm0 hm7;have hop := zks;cases hr0 : zcx l f p form with
 | stop pos e =>
  simp only [hr0] at ha;refine RetX.runW Tryz.func119 Tryz.ntmps119 rfl (by simp) fun Γ hn hpan => ?_
  repeat' (first
  | (refine zaf rfl ?_; simp [hne, del, zzA])
  | (refine CallP.zgg (ha _ (by first | omega | (simp <;> omega) | fail)) (by first | (simp [hne, del, zzA, zaa, getK, zab, zac]; done) | fail) (by rfl) (by first | assumption | (simp; done) | fail) (by rfl) (by simp) ?_; rintro ob' ⟨q', rfl⟩; refine ⟨_, Wk.refl _, ?_⟩)
  | fail)
  (refine hpan _ _ (PanG.k ([(i, pOb l q')]) (nx) (by simp [hn, hi, hne, zab, zac, zaa, getK] <;> omega) ?_); try simp)
  exact PPost.zbd (by simp [PR.bind, *])
 | ok v0 q0 =>
  have ha := fun nx' h => zwu (ha nx' h) hr0;obtain ⟨g0a, g0b⟩ := (zdB hl f).2.2.1 _ _ _ _ hr0 hp;generalize hR : (PR.ok v0 q0).bind (fun e q => zgb l f form e.1 e.2 q) = R;have hR' : R = zgb l f form v0.1 v0.2 q0 := hR.symm;refine RetX.runW Tryz.func119 Tryz.ntmps119 rfl (by simp) fun Γ hn hpan => ?_
  repeat' (first
  | (refine zaf rfl ?_; simp [hne, del, zzA])
  | (refine CallP.ok1 (ha _ (by first | omega | (simp <;> omega) | fail)) (by first | (simp [hne, del, zzA, zaa, getK, zab, zac]; done) | fail) (by rfl) (by first | assumption | (simp; done) | fail) (by rfl) (by simp) ?_; (try simp [hne, del, zzA]))
  | fail)
  refine zbS (α := { x : Exp × Int × Nat × Nat // x.2.2.1 < l.length /\ 4 * (l.length - x.2.2.1) + 2 <= x.2.2.2 /\ x.2.2.2 <= f /\ R = zgb l x.2.2.2 form x.1 x.2.1 x.2.2.1 }) [0, 1, 2, 4, 5] (fun x => [(6, .u (.int .i64 x.1.2.1))])
   (fun x => [(nx + 2, zx0 x.1.1), (nx + 1, .box [.u (.int .i64 0), .u (.int .i64 0), .u (.int .i64 0), .u (.str []), .u .nil]), (nx, .box [.ptr i 0]), (i, pOb l x.1.2.2.1)]) (nx + 3) (fun x => x.1.2.2.2) ⟨(v0.1, v0.2, q0, f), g0b, (by show 4 * (l.length - q0) + 2 <= f; omega), (by show f <= f; omega), hR'⟩ ?_ ?_
  ·have hi3 : i < nx + 3 := by omega
   exact (Wk.zdw (by simp [hn, hi, hi3, hne] <;> grind))
  rintro ⟨⟨e, own, q, g⟩, h1, h2, h2b, h3⟩;simp only at h1 h2 h2b h3;simp;obtain ⟨g, rfl⟩ : ∃ g', g = g' + 1 := ⟨g - 1, by omega⟩;rw [zgb] at h3;have hix := zpb l q h1 hl.len;cases hx : zwv l q with
  | none =>
   rw [(ziM oprs 0).1 hx] at hix;rw [hx] at h3
   repeat' (first
  | (refine zaf rfl ?_; simp [hne, del, zzA])
  | ((first | refine CallP.f2 rfl (hop) (by first | simp [hne, del, zzA] <;> rfl | fail) ?_ | refine CallP.f2 rfl (hix) (by first | simp [hne, del, zzA] <;> rfl | fail) ?_ | fail); simp [hne, del, zzA])
  | fail)
   refine EndW.norm ?_;simp [St.norm, za7, zbN, zb5, zcc, hne, zzA]
   (refine EndW.z ([(i, pOb l q)]) (N := nx) Tryz.results119 (by simp [hne, hi] <;> omega) ?_; simp [hne, hi])
   exact PPost.zdv h3 (by simp [Exp.row_eq]) rfl
  | some x =>
   obtain ⟨k, hk1, hk2⟩ := (ziM oprs 0).2 x hx;rw [hk2] at hix;rw [hx] at h3;simp only at h3;have hqb := zbR hl (by have := List.find?_some (p := fun o : Opr => isB l q o.text) hx; exact this);have hk0 : ¬ ((k : Int) < 0) := by omega
   have hkl : k < 8 := (List.getElem?_eq_some_iff.1 hk1).1;rw [show (0 : Int) + k = (k : Int) by omega] at hix;have hfm : 0 <= x.form /\ x.form <= 6 := by
    have := List.mem_of_getElem? hk1;simp only [oprs, List.mem_cons, List.not_mem_nil, or_false] at this;rcases this with rfl | rfl | rfl | rfl | rfl | rfl | rfl | rfl <;> decide
   obtain ⟨hf0, hf6⟩ := hfm;generalize hL : oprs = L at hop hix hk1;by_cases c1 : x.form < form
   ·rw [if_pos (Or.inl c1)] at h3
    repeat' (first
  | (refine zaf rfl ?_; simp [hne, del, zzA, hk0, hk1, c1])
  | ((first | refine CallP.f2 rfl (hop) (by first | simp [hne, del, zzA, hk0, hk1, c1] <;> rfl | fail) ?_ | refine CallP.f2 rfl (hix) (by first | simp [hne, del, zzA, hk0, hk1, c1] <;> rfl | fail) ?_ | fail); simp [hne, del, zzA, hk0, hk1, c1])
  | fail)
    refine EndW.norm ?_;simp [St.norm, za7, zbN, zb5, zcc, hne, zzA]
    (refine EndW.z ([(i, pOb l q)]) (N := nx) Tryz.results119 (by simp [hne, hi] <;> omega) ?_; simp [hne, hi])
    exact PPost.zdv h3 (by simp [Exp.row_eq]) rfl
   ·by_cases c2 : own < x.form
    ·rw [if_pos (Or.inr (Or.inl c2))] at h3
     repeat' (first
  | (refine zaf rfl ?_; simp [hne, del, zzA, hk0, hk1, c1, c2])
  | ((first | refine CallP.f2 rfl (hop) (by first | simp [hne, del, zzA, hk0, hk1, c1, c2] <;> rfl | fail) ?_ | refine CallP.f2 rfl (hix) (by first | simp [hne, del, zzA, hk0, hk1, c1, c2] <;> rfl | fail) ?_ | fail); simp [hne, del, zzA, hk0, hk1, c1, c2])
  | fail)
     refine EndW.norm ?_;simp [St.norm, za7, zbN, zb5, zcc, hne, zzA]
     (refine EndW.z ([(i, pOb l q)]) (N := nx) Tryz.results119 (by simp [hne, hi] <;> omega) ?_; simp [hne, hi])
     exact PPost.zdv h3 (by simp [Exp.row_eq]) rfl
    ·by_cases c3 : own = 4 /\ x.form = 4
     ·rw [if_pos (Or.inr (Or.inr c3))] at h3;obtain ⟨c4, c5⟩ := c3
      repeat' (first
  | (refine Cnd.of (fun hc => ?_) (fun hc => ?_) <;> (try (exfalso; omega)) <;> (try simp [hne, del, zzA, hk0, hk1, c1, c2, c4, c5]))
  | (refine zaf rfl ?_; simp [hne, del, zzA, hk0, hk1, c1, c2, c4, c5])
  | ((first | refine CallP.f2 rfl (hop) (by first | simp [hne, del, zzA, hk0, hk1, c1, c2, c4, c5] <;> rfl | fail) ?_ | refine CallP.f2 rfl (hix) (by first | simp [hne, del, zzA, hk0, hk1, c1, c2, c4, c5] <;> rfl | fail) ?_ | fail); simp [hne, del, zzA, hk0, hk1, c1, c2, c4, c5])
  | fail)
      refine EndW.norm ?_;simp [St.norm, za7, zbN, zb5, zcc, hne, zzA]
      (refine EndW.z ([(i, pOb l q)]) (N := nx) Tryz.results119 (by simp [hne, hi] <;> omega) ?_; simp [hne, hi])
      exact PPost.zdv h3 (by simp [Exp.row_eq]) rfl
     ·rw [if_neg (by rintro (h | h | h) <;> contradiction)] at h3;have hb := fun nx' (h : nx <= nx') => hE g (by omega) (q + 1) (x.form + 1) i nx' (by omega) hqb (by omega) (by omega) (by omega);cases hr1 : zfu l g (q + 1) (x.form + 1) with
      | stop pos err =>
       simp only [hr1] at hb;rw [hr1] at h3;by_cases c4 : own = 4
       ·have c5 : ¬ x.form = 4 := fun h => c3 ⟨c4, h⟩
        repeat' (first
  | (refine zg8 (fun nx' h' => hb nx' (by simp at h'; omega)) (by first | (simp [hne, del, zzA, hk0, hk1, c1, c2, c4, c5, zaa, getK, zab, zac, zad, zar]; done) | fail) (by rfl) (by first | assumption | simp) (by rfl) (by simp) ?_ ?_; rintro env' ob' n' hn' ⟨q', rfl⟩; refine ⟨_, Wk.refl _, ?_⟩)
  | (refine zfQ rfl (by simp) ?_; simp)
  | (refine Cnd.of (fun hc => ?_) (fun hc => ?_) <;> (try (exfalso; omega)) <;> (try simp [hne, del, zzA, hk0, hk1, c1, c2, c4, c5]))
  | (refine zaf rfl ?_; simp [hne, del, zzA, hk0, hk1, c1, c2, c4, c5])
  | (refine And.intro (by omega) ?_)
  | (refine zeg (hC _ (zb1 [i] nx (by simp <;> omega) (by simp <;> omega) (by apply Exists.intro; apply And.intro; (focus (repeat' (first | exact KF.nil | exact KL.nil | apply KF.cons | apply KL.cons 0 rfl | apply KL.cons 1 rfl | apply KL.cons 2 rfl | apply KL.cons 3 rfl | apply KL.cons 4 rfl | apply KL.cons 5 rfl | apply KL.cons 6 rfl | apply KL.cons 7 rfl | apply KL.cons 8 rfl | apply KL.cons 9 rfl))); kernel_rfl))) rfl; done)
  | (refine zdx rfl (by kernel_rfl) (by first | (simp [hn] <;> omega) | fail) fun C k hC hk => ?_; simp [hne, del, zzA, hk0, hk1, c1, c2, c4, c5])
  | ((first | refine CallP.f2 rfl (hop) (by first | simp [hne, del, zzA, hk0, hk1, c1, c2, c4, c5] <;> rfl | fail) ?_ | refine CallP.f2 rfl (hix) (by first | simp [hne, del, zzA, hk0, hk1, c1, c2, c4, c5] <;> rfl | fail) ?_ | fail); simp [hne, del, zzA, hk0, hk1, c1, c2, c4, c5])
  | fail)
        (refine hpan _ _ (PanG.k ([(i, pOb l q')]) (nx) (by simp [hn, hi, hne, zab, zac, zaa, getK] <;> omega) ?_); try simp)
        exact PPost.zbd h3
       ·repeat' (first
  | (refine zg8 (fun nx' h' => hb nx' (by simp at h'; omega)) (by first | (simp [hne, del, zzA, hk0, hk1, c1, c2, c4, zaa, getK, zab, zac, zad, zar]; done) | fail) (by rfl) (by first | assumption | simp) (by rfl) (by simp) ?_ ?_; rintro env' ob' n' hn' ⟨q', rfl⟩; refine ⟨_, Wk.refl _, ?_⟩)
  | (refine zfQ rfl (by simp) ?_; simp)
  | (refine zaf rfl ?_; simp [hne, del, zzA, hk0, hk1, c1, c2, c4])
  | (refine And.intro (by omega) ?_)
  | (refine zeg (hC _ (zb1 [i] nx (by simp <;> omega) (by simp <;> omega) (by apply Exists.intro; apply And.intro; (focus (repeat' (first | exact KF.nil | exact KL.nil | apply KF.cons | apply KL.cons 0 rfl | apply KL.cons 1 rfl | apply KL.cons 2 rfl | apply KL.cons 3 rfl | apply KL.cons 4 rfl | apply KL.cons 5 rfl | apply KL.cons 6 rfl | apply KL.cons 7 rfl | apply KL.cons 8 rfl | apply KL.cons 9 rfl))); kernel_rfl))) rfl; done)
  | (refine zdx rfl (by kernel_rfl) (by first | (simp [hn] <;> omega) | fail) fun C k hC hk => ?_; simp [hne, del, zzA, hk0, hk1, c1, c2, c4])
  | ((first | refine CallP.f2 rfl (hop) (by first | simp [hne, del, zzA, hk0, hk1, c1, c2, c4] <;> rfl | fail) ?_ | refine CallP.f2 rfl (hix) (by first | simp [hne, del, zzA, hk0, hk1, c1, c2, c4] <;> rfl | fail) ?_ | fail); simp [hne, del, zzA, hk0, hk1, c1, c2, c4])
  | fail)
        (refine hpan _ _ (PanG.k ([(i, pOb l q')]) (nx) (by simp [hn, hi, hne, zab, zac, zaa, getK] <;> omega) ?_); try simp)
        exact PPost.zbd h3
      | ok e2 q2 =>
       have hb := fun nx' h => zeu (hb nx' h) hr1;obtain ⟨g1a, g1b⟩ := (zdB hl g).1 _ _ _ _ hr1 hqb;rw [hr1] at h3;by_cases c4 : own = 4
       ·have c5 : ¬ x.form = 4 := fun h => c3 ⟨c4, h⟩
        repeat' (first
  | (refine zi9 (fun nx' h' => hb nx' (by simp at h'; omega)) (by first | (simp [hne, del, zzA, hk0, hk1, c1, c2, c4, c5, zaa, getK, zab, zac, zad, zar]; done) | fail) (by rfl) (by first | assumption | simp) (by rfl) (by simp [D.under, Ob.under]) (by simp) ?_; (try simp [hne, del, zzA, hk0, hk1, c1, c2, c4, c5]))
  | (refine Cnd.of (fun hc => ?_) (fun hc => ?_) <;> (try (exfalso; omega)) <;> (try simp [hne, del, zzA, hk0, hk1, c1, c2, c4, c5]))
  | (refine zaf rfl ?_; simp [hne, del, zzA, hk0, hk1, c1, c2, c4, c5])
  | (refine And.intro (by omega) ?_)
  | (refine ⟨hC _ (zb1 [i] nx (by simp <;> omega) (by simp <;> omega) (by apply Exists.intro; apply And.intro; (focus (repeat' (first | exact KF.nil | exact KL.nil | apply KF.cons | apply KL.cons 0 rfl | apply KL.cons 1 rfl | apply KL.cons 2 rfl | apply KL.cons 3 rfl | apply KL.cons 4 rfl | apply KL.cons 5 rfl | apply KL.cons 6 rfl | apply KL.cons 7 rfl | apply KL.cons 8 rfl | apply KL.cons 9 rfl))); kernel_rfl)), hk _ (zdH 8 _ _ _ ?_)⟩; clear hC hk C k; simp [hne, del, zzA, hk0, hk1, c1, c2, c4, c5])
  | (refine zdx rfl (by kernel_rfl) (by first | (simp [hn] <;> omega) | fail) fun C k hC hk => ?_; simp [hne, del, zzA, hk0, hk1, c1, c2, c4, c5])
  | (refine zcA rfl ?_; simp [hne, del, zzA, hk0, hk1, c1, c2, c4, c5])
  | ((first | refine CallP.f2 rfl (hop) (by first | simp [hne, del, zzA, hk0, hk1, c1, c2, c4, c5] <;> rfl | fail) ?_ | refine CallP.f2 rfl (hix) (by first | simp [hne, del, zzA, hk0, hk1, c1, c2, c4, c5] <;> rfl | fail) ?_ | fail); simp [hne, del, zzA, hk0, hk1, c1, c2, c4, c5])
  | fail)
        have hi3 : i < nx + 3 := by omega
        refine LoopW.next ⟨(.mk x.op 0 0 [] [e, e2], x.form, q2, g), g1b, (by show 4 * (l.length - q2) + 2 <= g; omega), (by show g <= f; omega), h3⟩ (by show g < g + 1; omega) ?_
        refine Wk.trans (Wk.frzN 1 _) ?_;simp [hne, zzA, frzN, frz1, zav, zau, St.frz, St.frzS, frzS, fv, za1, zbm, zbn, frzObS, zat, zan, del, frz, zbL];exact (Wk.zdw (by simp [hn, hi, hi3, hne, Exp.row_eq, Exp.op, Exp.n, Exp.unit, Exp.s, Exp.args] <;> grind))
       ·repeat' (first
  | (refine zi9 (fun nx' h' => hb nx' (by simp at h'; omega)) (by first | (simp [hne, del, zzA, hk0, hk1, c1, c2, c4, zaa, getK, zab, zac, zad, zar]; done) | fail) (by rfl) (by first | assumption | simp) (by rfl) (by simp [D.under, Ob.under]) (by simp) ?_; (try simp [hne, del, zzA, hk0, hk1, c1, c2, c4]))
  | (refine zaf rfl ?_; simp [hne, del, zzA, hk0, hk1, c1, c2, c4])
  | (refine And.intro (by omega) ?_)
  | (refine ⟨hC _ (zb1 [i] nx (by simp <;> omega) (by simp <;> omega) (by apply Exists.intro; apply And.intro; (focus (repeat' (first | exact KF.nil | exact KL.nil | apply KF.cons | apply KL.cons 0 rfl | apply KL.cons 1 rfl | apply KL.cons 2 rfl | apply KL.cons 3 rfl | apply KL.cons 4 rfl | apply KL.cons 5 rfl | apply KL.cons 6 rfl | apply KL.cons 7 rfl | apply KL.cons 8 rfl | apply KL.cons 9 rfl))); kernel_rfl)), hk _ (zdH 8 _ _ _ ?_)⟩; clear hC hk C k; simp [hne, del, zzA, hk0, hk1, c1, c2, c4])
  | (refine zdx rfl (by kernel_rfl) (by first | (simp [hn] <;> omega) | fail) fun C k hC hk => ?_; simp [hne, del, zzA, hk0, hk1, c1, c2, c4])
  | (refine zcA rfl ?_; simp [hne, del, zzA, hk0, hk1, c1, c2, c4])
  | ((first | refine CallP.f2 rfl (hop) (by first | simp [hne, del, zzA, hk0, hk1, c1, c2, c4] <;> rfl | fail) ?_ | refine CallP.f2 rfl (hix) (by first | simp [hne, del, zzA, hk0, hk1, c1, c2, c4] <;> rfl | fail) ?_ | fail); simp [hne, del, zzA, hk0, hk1, c1, c2, c4])
  | fail)
        have hi3 : i < nx + 3 := by omega
        refine LoopW.next ⟨(.mk x.op 0 0 [] [e, e2], x.form, q2, g), g1b, (by show 4 * (l.length - q2) + 2 <= g; omega), (by show g <= f; omega), h3⟩ (by show g < g + 1; omega) ?_
        refine Wk.trans (Wk.frzN 1 _) ?_;simp [hne, zzA, frzN, frz1, zav, zau, St.frz, St.frzS, frzS, fv, za1, zbm, zbn, frzObS, zat, zan, del, frz, zbL];exact (Wk.zdw (by simp [hn, hi, hi3, hne, Exp.row_eq, Exp.op, Exp.n, Exp.unit, Exp.s, Exp.args] <;> grind))
theorem zu9 (s : List UInt8) (l : List Tok) (nx : Nat) (h : zpP s = .ok l) :
  RetX Tryz.prog 62 [.u (.str s)] [] nx (fun r o n => r = .val (.tup [.ptr nx 0, .u (.int .i64 0), .u (.int .i64 0)]) /\ o = [(nx, pOb l 0)] /\ n = nx + 1) := by
 have h1 := zq7 s;rw [h] at h1;simp only [zjU] at h1;refine RetX.runW Tryz.func62 Tryz.ntmps62 rfl (by simp) fun Γ hn hpan => ?_
 repeat' (first
  | (refine zaf rfl ?_; simp)
  | (refine CallP.f2 rfl (h1) (by first | simp <;> rfl | fail) ?_; simp)
  | fail)
 (refine EndW.h Tryz.results62 ?_; simp)
theorem zs7 (s : List UInt8) (p : Nat) (e : Int) (nx : Nat) (h : zpP s = .error (p, e)) :
  RetX Tryz.prog 62 [.u (.str s)] [] nx (fun r o n => r = .val (.tup [.ptr nx 0, .u (.int .i64 p), .u (.int .i64 e)]) /\ o = [(nx, pOb [] 0)] /\ n = nx + 1) := by
 have h1 := zq7 s;rw [h] at h1;simp only [zjU] at h1;refine RetX.runW Tryz.func62 Tryz.ntmps62 rfl (by simp) fun Γ hn hpan => ?_
 repeat' (first
  | (refine zaf rfl ?_; simp)
  | (refine CallP.f2 rfl (h1) (by first | simp <;> rfl | fail) ?_; simp)
  | fail)
 (refine EndW.h Tryz.results62 ?_; simp)
theorem znp (i j nx : Nat) (hi : i < nx) (hj : j < nx) (hij : i ≠ j) (p e : Int) :
  RetX Tryz.prog 64 [.u (.oth .nilIface), .ptr i 0, .ptr j 0] [(i, .box [.u (.int .i64 p)]), (j, .box [.u (.int .i64 e)])] nx
   (fun r o n => r = .val (.u (.bool false)) /\ o = [(i, .box [.u (.int .i64 p)]), (j, .box [.u (.int .i64 e)])] /\ n = nx) := by
 have hne := zbl hi;have hne2 := zbl hj;refine RetX.runW Tryz.func64 Tryz.ntmps64 rfl (by simp) fun Γ hn hpan => ?_
 repeat' (first
  | (refine zaf rfl ?_; simp [hne, hne2, hij, Ne.symm hij])
  | fail)
 refine ⟨(true, [.int .i64 0, .int .i64 0]), rfl, ?_⟩;simp [hne, hne2, hij, Ne.symm hij]
 repeat' (first | fail)
 (refine EndW.z ([(i, .box [.u (.int .i64 p)]), (j, .box [.u (.int .i64 e)])]) (N := nx) Tryz.results64 (by simp [hne, hne2, hij, Ne.symm hij, hi, hj] <;> omega) ?_; simp [hne, hne2, hij, Ne.symm hij, hi, hj])
theorem zno (i j nx : Nat) (hi : i < nx) (hj : j < nx) (hij : i ≠ j) (p e pos err : Int) :
  RetX Tryz.prog 64 [.u (.oth (.iface 149 (.agg #[.int .i64 pos, .int .i64 err]))), .ptr i 0, .ptr j 0] [(i, .box [.u (.int .i64 p)]), (j, .box [.u (.int .i64 e)])] nx
   (fun r o n => r = .val (.u (.bool true)) /\ o = [(i, .box [.u (.int .i64 pos)]), (j, .box [.u (.int .i64 err)])] /\ n = nx) := by
 have hne := zbl hi;have hne2 := zbl hj;refine RetX.runW Tryz.func64 Tryz.ntmps64 rfl (by simp) fun Γ hn hpan => ?_
 repeat' (first
  | (refine zaf rfl ?_; simp [hne, hne2, hij, Ne.symm hij])
  | (refine ⟨hC _ (zb1 [i, j] nx (by simp <;> omega) (by simp <;> omega) (by apply Exists.intro; apply And.intro; (focus (repeat' (first | exact KF.nil | exact KL.nil | apply KF.cons | apply KL.cons 0 rfl | apply KL.cons 1 rfl | apply KL.cons 2 rfl | apply KL.cons 3 rfl | apply KL.cons 4 rfl | apply KL.cons 5 rfl | apply KL.cons 6 rfl | apply KL.cons 7 rfl | apply KL.cons 8 rfl | apply KL.cons 9 rfl))); kernel_rfl)), hk _ (zdH 8 _ _ _ ?_)⟩; clear hC hk C k; simp [hne, hne2, hij, Ne.symm hij])
  | (refine zdx rfl (by kernel_rfl) (by first | (simp [hn] <;> omega) | fail) fun C k hC hk => ?_; simp [hne, hne2, hij, Ne.symm hij])
  | fail)
 (refine EndW.z ([(i, .box [.u (.int .i64 pos)]), (j, .box [.u (.int .i64 err)])]) (N := nx) Tryz.results64 (by simp [hne, hne2, hij, Ne.symm hij, hi, hj] <;> omega) ?_; simp [hne, hne2, hij, Ne.symm hij, hi, hj])
end Go.Proofs.YtmlpcgkaonifcaaGreatDoor
namespace Go.Proofs.YtmlpcgkaonifcaaGreatDoor
open Go Go.VL
theorem zuU {l : List Nd} (hg : zft l = true) : zjy (zfy l) := fun v hv => by
 obtain ⟨_, h3, hn⟩ := (zdL l).1 hg;obtain ⟨q, hq, rfl⟩ := List.mem_map.1 hv;have h := zqh l 0 (fun x hx m hm => by
  obtain ⟨j, hj⟩ := List.getElem?_of_mem hx;have h5 := hn j x hj;unfold znT at h5;have h6 := List.all_eq_true.1 (Bool.and_eq_true_iff.1 h5).2 m hm;unfold zmz at h6;simp at h6;omega) q hq
 omega
theorem zkp (b : By) (m : Int) (c : List Int) : -4503599627370496 <= (za5 b m c).2.2.1 /\ (za5 b m c).2.2.1 <= 4503599627370496 := by
 unfold za5;split
 ·simp
 ·rename_i h;have hg := zkt (b := b) (m := m) (c := c) (by simpa using h);have hv := zuU hg;dsimp only;rw [List.getD_eq_getElem?_getD];cases hq : (zfy (zdV b m c).1)[0]? with
  | none => simp
  | some v => exact hv v (List.mem_of_getElem? hq)
theorem zk8 (s : Nat) : ze8 (s + 1) = ze8 s ++ [(s : Int)] := by simp [ze8, List.range_succ]
theorem ztJ (b : By) (m : Int) (s : Nat) (most : Int) (r : Nat) : exG b m s most (r + 1) = if (za5 b m (ze8 s)).2.2.2 ≠ 0 then (0, (za5 b m (ze8 s)).2.2.2) else exG b m (s + 1) (max most (za5 b m (ze8 s)).2.2.1) r := by rw [exG]
theorem zgL (a : Option Addr) (n c : Nat) : (Value.slice a n c).oneCell' = true := rfl
end Go.Proofs.YtmlpcgkaonifcaaGreatDoor
namespace Go.Proofs.YtmlpcgkaonifcaaGreatDoor
open Go Go.VL
attribute [local simp] HS zbw zc2 zcq evPure opd uOf zay St.put St.at getK binD binI binS binB nilD aggD zfJ zge lookD lookR zcn rangeS Go.VL.nextD Go.VL.nextS zcr zgk zgh zfs zcv mkV zbi zaT zaS zaR zc0 zaP zba zbs mapEff zdE zfp Key.kk shiftI arith unD convD zdu loadD cellsAt fieldAddrD fieldD indexAddrD indexSlD arrAddr indexD sliceD cutD lenD minmaxD nilCheckD buildD fillD zb0 zc7 zeD setAll zcW zef zck zfv zcj St.add zaw zbB rowsOf zdg zcw zad zac zaa zbz zda za3 entry zbO zbT valD zcm zcB zfw zdb zdc zb4 zbP zam zaW zbj delAll effD St.effS zcF zaU zaH zcG zaV zaJ zbY zaI zaA zbZ zcD zbv zbX za9 zbV zbW zar mkD zcl zbG zbK zam zcu D.ids Op.operands Call.operands zbH makeIfD makeFuncD typeAssertD zgd zdm zdn zf8 zco IntKind.bits zct zaz List.take_of_length_le List.range_succ zcO zcf zcP zcK zbD zb6 zb8 zcL zca zbe zb9 zb7 zhc zce zcM zaZ zaL zcN za0 zaN zcd zaM zaF zcS zcT zha zab frzN frz1 zav zau St.frz St.frzS frzS fv za1 zbm zbn frzObS zat zan frz zbL zbq zbr zbN zb5 zcc za7 St.norm St.lp St.only zax wkE wkO wkU Ob.under D.under zaj zak zcQ zcg zcR h4s zea zaC zbC List.zipIdx_cons List.zipIdx_nil zzC zzD Nat.zero_add
attribute [local irreducible] V G H HD HD2 HD4 zhd RetX zbf Eff CallP CallV EndOK Fun Ret FinOK LoopI LoopW EndW HR vs2 RN Cnd H4
open Df in
theorem ziT (b : By) (m liars : Int) : Fun Tryz.prog 7 [.u (.agg (zaE b)), .u (.int .i64 m), .u (.int .i64 liars)] (· = .tup [.u (.int .i64 (zet b m liars).1), .u (.int .i64 (zet b m liars).2)]) := by
 have h0 := zfb b m [] (by simp);have hri := fun h => zd5 (b := b) (m := m) (c := []) h;unfold zet;generalize zdJ b m [] = R at *;by_cases hR : R = true /\ 0 <= liars /\ liars <= m
 ·obtain ⟨rfl, hl1, hl2⟩ := hR;obtain ⟨_, _, hm1, hm2⟩ := hri rfl;obtain ⟨Q, rfl⟩ := Int.eq_ofNat_of_zero_le hl1;have hp := fun (s : Nat) (hs : s < 100) => zem b m (ze8 s) (by rw [zfR]; omega);have hpi := fun s => zkp b m (ze8 s);have hc1 := zg1 zlH m;have hc2 := zfO zm0 0;have hv : Fun Tryz.prog 19 [.u (zgf b m 0), .u (.str zga), .u (zdS [⟨zlH, 1, m⟩, ⟨zm0, 3, 0⟩])] (· = .tup [.u (.int .i64 (zer b m).1), .u (.int .i64 (zer b m).2)]) := zh1 b m 0 zga _;have hvi : 0 <= (zer b m).1 /\ (zer b m).1 <= 1099511627776 := zk4 b zga _;generalize zer b m = HO at *;obtain ⟨hold, he⟩ := HO;simp only at hvi hv ⊢;rw [if_pos ⟨trivial, by omega, hl2⟩, Int.toNat_natCast];have hpr := zen (x := (Q : Int)) (y := hold) (B := 1099511627776) (C := 60) (by omega) (by omega) (by omega);have hpr0 : 0 <= (Q : Int) * hold := Int.mul_nonneg (by omega) (by omega);obtain ⟨X, hX⟩ : ∃ X, X = exG b m 0 0 (Q + 1) := ⟨_, rfl⟩;rw [<- hX];simp only [zgf, zut, zdS, zaE, ints, zlH, zm0, zga, List.cons_append, List.nil_append, zzC, zzD] at h0 hp hc1 hc2 hv ⊢;have hl3 : ¬ m < (Q : Int) := by omega
  refine Fun.runW Tryz.func7 Tryz.ntmps7 rfl (by simp) fun Γ hn => ?_
  repeat' (first
  | (refine Cnd.of (fun hc => ?_) (fun hc => ?_) <;> (try (exfalso; omega)) <;> (try simp [hl3]))
  | (refine zaf rfl ?_; simp [hl3])
  | (refine And.intro (by omega) ?_)
  | (refine CallP.f2 rfl (h0) (by first | simp [hl3] <;> rfl | fail) ?_; simp [hl3])
  | fail)
  refine zhP 0 ?_;simp [frzB, zav, zau, St.frzS, frzS, fv, za1, zbm, zbn, frzObS, zat, zan, del];refine zkX _ (Wk.own 9 3 1 (by decide) rfl) ?_;simp [St.own];refine zbS (α := { s : Nat × Int // s.1 <= Q + 1 /\ (0 <= s.2 /\ s.2 <= 4503599627370496) /\ exG b m s.1 s.2 (Q + 1 - s.1) = X }) [1, 2, 3, 31] (fun s => [(8, .u (.int .i64 s.1.2)), (9, .vec 1 s.1.1), (32, .u (.int .i64 s.1.1))]) (fun s => [(1, .vec 3 1 (intR (ze8 s.1.1)))]) 2 (fun s => Q + 1 - s.1.1) ⟨(0, 0), by omega, by simp, hX.symm⟩ ?_ ?_
  ·exact (Wk.zdw (by simp [hn, ze8, intR] <;> grind))
  rintro ⟨⟨s, most⟩, hsQ, hmo, hsX⟩;simp;simp only at hsQ hmo hsX;have hul := zfR s;have hil : (intR (ze8 s)).length = s := by rw [zag, hul]
  by_cases hs : s < Q + 1
  ·have hsi : (s : Int) < Q + 1 := by omega
   have hpe := hp s (by omega);have hpb := hpi s;have hap : intR (ze8 s) ++ [[D.u (.int .i64 (s : Int))]] = intR (ze8 (s + 1)) := by rw [zk8]; simp [intR]
   have htk : (intR (ze8 s)).take s = intR (ze8 s) := List.take_of_length_le (by omega);rw [show Q + 1 - s = (Q + 1 - (s + 1)) + 1 by omega, ztJ] at hsX;generalize za5 b m (ze8 s) = PR at hpe hpb hsX;obtain ⟨V, C, bd, pe⟩ := PR;simp only at hpe hpb hsX;by_cases he0 : pe = 0
   ·subst he0;rw [if_neg (by simp)] at hsX
    repeat' (first
  | (refine CallP.zy2 (us := [.int .i64 bd, .int .i64 0]) hpe (by first | rfl | fail) (by first | assumption | (simp; done) | fail) (by first | (simp [hil, htk, zbF]; done) | (simp [hil, htk, zbF]; rfl) | fail) (by first | (simp [zbj]; done) | fail) (by first | (simp; done) | fail) (fun a1 n1 c1 a2 n2 c2 => ?_); simp [hil, htk, zbF, zgL])
  | (refine zaf rfl ?_; simp [hs, hsi, hil, htk, zbF, hap, zgL])
  | (refine And.intro (by omega) ?_)
  | fail)
    refine LoopW.next ⟨(s + 1, max most bd), by omega, by simp; omega, hsX⟩ (by simp; omega) ?_
    exact (Wk.ren ((fun i => if i = 1 then 4 else i)) rfl (by first | (simp [hn]; done) | (intro i hi; rw [hn] at hi; constructor <;> (try simp) <;> (try (intro _)) <;> omega)) (by simp [zhQ, St.lp, zax, zaa, getK, zac, zad, D.under, D.le, D.ren, hap, zal, zai] <;> (try (intros; simp_all; done)) <;> (try omega)) (by simp [wkR, St.lp, zaa, getK, zac, zad, obR, leU, zch, za2, Ob.under, D.under, D.le, D.ren, hap, zal, zai] <;> (try (intros; simp_all; done)) <;> (try omega)) (by simp [hap, zal, zai]))
   ·rw [if_pos he0] at hsX
    repeat' (first
  | (refine CallP.zy2 (us := [.int .i64 bd, .int .i64 pe]) hpe (by first | rfl | fail) (by first | assumption | (simp; done) | fail) (by first | (simp [hil, htk, zbF]; done) | (simp [hil, htk, zbF]; rfl) | fail) (by first | (simp [zbj]; done) | fail) (by first | (simp; done) | fail) (fun a1 n1 c1 a2 n2 c2 => ?_); simp [hil, htk, zbF, he0, zgL])
  | (refine zaf rfl ?_; simp [hs, hsi, hil, htk, zbF, he0, zgL])
  | fail)
    refine EndW.norm (EndW.here ?_)
    (refine EndOK.val (.inr rfl) ?_; simp [Tryz.results7])
    all_goals simp [<- hsX, he0]
  ·obtain rfl : s = Q + 1 := by omega
   rw [Nat.sub_self, exG] at hsX;have hsi : ¬ ((Q : Int) + 1 < Q + 1) := Int.lt_irrefl _;by_cases hh0 : he = 0
   ·subst hh0
    repeat' (first
  | (refine zaf rfl ?_; simp [hs, hsi])
  | (refine And.intro (by omega) ?_)
  | (refine ⟨hC _ (by kernel_rfl), hk _ (zdH 8 _ _ _ ?_)⟩; clear hC hk C k; simp [hs, hsi])
  | (refine zdx rfl (by kernel_rfl) (by first | (simp [hn] <;> omega) | fail) fun C k hC hk => ?_; simp [hs, hsi])
  | (refine zcA rfl ?_; simp [hs, hsi])
  | (refine zbQ rfl ?_; simp [hs, hsi])
  | ((first | refine CallV.f2 rfl (hc1) (by first | simp [hs, hsi] <;> rfl | fail) ?_ | refine CallV.f2 rfl (hc2) (by first | simp [hs, hsi] <;> rfl | fail) ?_ | refine CallV.f2 rfl (hv) (by first | simp [hs, hsi] <;> rfl | fail) ?_ | fail); simp [hs, hsi])
  | fail)
    refine EndW.norm (EndW.here ?_)
    (refine EndOK.val (.inr rfl) ?_; simp [Tryz.results7])
    all_goals simp [<- hsX]
   ·repeat' (first
  | (refine zaf rfl ?_; simp [hs, hsi, hh0])
  | (refine ⟨hC _ (by kernel_rfl), hk _ (zdH 8 _ _ _ ?_)⟩; clear hC hk C k; simp [hs, hsi, hh0])
  | (refine zdx rfl (by kernel_rfl) (by first | (simp [hn] <;> omega) | fail) fun C k hC hk => ?_; simp [hs, hsi, hh0])
  | (refine zcA rfl ?_; simp [hs, hsi, hh0])
  | (refine zbQ rfl ?_; simp [hs, hsi, hh0])
  | ((first | refine CallV.f2 rfl (hc1) (by first | simp [hs, hsi, hh0] <;> rfl | fail) ?_ | refine CallV.f2 rfl (hc2) (by first | simp [hs, hsi, hh0] <;> rfl | fail) ?_ | refine CallV.f2 rfl (hv) (by first | simp [hs, hsi, hh0] <;> rfl | fail) ?_ | fail); simp [hs, hsi, hh0])
  | fail)
    refine EndW.norm (EndW.here ?_)
    (refine EndOK.val (.inr rfl) ?_; simp [Tryz.results7])
    all_goals simp [<- hsX, hh0]
 ·rw [if_neg hR];simp only [zaE, ints, zzD] at h0 ⊢;cases R with
  | false =>
   refine Fun.runW Tryz.func7 Tryz.ntmps7 rfl (by simp) fun Γ hn => ?_
   repeat' (first
  | (refine zaf rfl ?_; simp)
  | (refine CallP.f2 rfl (h0) (by first | simp <;> rfl | fail) ?_; simp)
  | fail)
   refine EndW.norm (EndW.here ?_)
   (refine EndOK.val (.inr rfl) ?_; simp [Tryz.results7])
  | true =>
   by_cases hl1 : liars < 0
   ·refine Fun.runW Tryz.func7 Tryz.ntmps7 rfl (by simp) fun Γ hn => ?_
    repeat' (first
  | (refine zaf rfl ?_; simp [hl1])
  | (refine CallP.f2 rfl (h0) (by first | simp [hl1] <;> rfl | fail) ?_; simp [hl1])
  | fail)
    refine EndW.norm (EndW.here ?_)
    (refine EndOK.val (.inr rfl) ?_; simp [Tryz.results7])
   ·have hl2 : m < liars := by have : ¬ (0 <= liars /\ liars <= m) := fun h => hR ⟨rfl, h⟩; omega
    refine Fun.runW Tryz.func7 Tryz.ntmps7 rfl (by simp) fun Γ hn => ?_
    repeat' (first
  | (refine zaf rfl ?_; simp [hl1, hl2])
  | (refine CallP.f2 rfl (h0) (by first | simp [hl1, hl2] <;> rfl | fail) ?_; simp [hl1, hl2])
  | fail)
    refine EndW.norm (EndW.here ?_)
    (refine EndOK.val (.inr rfl) ?_; simp [Tryz.results7])
end Go.Proofs.YtmlpcgkaonifcaaGreatDoor
namespace Go.VL
open Go
theorem zw0 {P : Program} {Γ : Ctx} {c : Code} {s : St} {Q : Exit -> St -> Prop} {x j : Nat} {cells : List U} {rows : List (List U)} (hx : getK s.env x = some (.u (.agg cells))) (hj : cells[j]? = some (.sl rows)) (h : rows.length <= 9223372036854775807 -> V P Γ c s Q) : V P Γ c s Q :=
 zsq (fun K a w hs => by
  have hr := (hs.getK hx).2;obtain ⟨vs, hl, _, hr⟩ := zee hr;have hr := hr j _ hj;generalize vs.getD j undef = v at hr;cases hr with
  | slE => simp
  | sl _ b o sz c f hc hcx => unfold maxLen at hcx; omega) h
end Go.VL
namespace Go.Proofs.YtmlpcgkaonifcaaGreatDoor
open Go Go.VL
attribute [local simp] zbw zc2 zcq evPure opd uOf zay St.put St.at getK binD binI binS binB nilD aggD zfJ zge lookD lookR zcn rangeS Go.VL.nextD Go.VL.nextS zcr zgk zgh zfs zcv mkV zbi zaT zaS zaR zc0 zaP zba zbs mapEff zdE zfp Key.kk shiftI arith unD convD zdu loadD cellsAt fieldAddrD fieldD indexAddrD indexSlD arrAddr indexD sliceD cutD lenD minmaxD nilCheckD buildD fillD zb0 zc7 zeD setAll zcW zef zck zfv zcj St.add zaw zbB rowsOf zdg zcw zad zac zaa zbz zda za3 entry zbO zbT valD zcm zcB zfw zdb zdc zb4 zbP zam zaW zbj delAll effD St.effS zcF zaU zaH zcG zaV zaJ zbY zaI zaA zbZ zcD zbv zbX za9 zbV zbW zar mkD zcl zbG zbK zam zcu D.ids Op.operands Call.operands zbH makeIfD makeFuncD typeAssertD zgd zdm zdn zf8 zco IntKind.bits zct zaz List.take_of_length_le List.range_succ zcO zcf zcP zcK zbD zb6 zb8 zcL zca zbe zb9 zb7 zhc zce zcM zaZ zaL zcN za0 zaN zcd zaM zaF zcS zcT zha zab frzN frz1 zav zau St.frz St.frzS frzS fv za1 zbm zbn frzObS zat zan frz zbL zbq zbr zbN zb5 zcc za7 St.norm St.lp St.only zax wkE wkO wkU Ob.under D.under zaj zak zcQ zcg zcR h4s zea zaC zbC List.zipIdx_cons List.zipIdx_nil zzC zzD Nat.zero_add
attribute [local irreducible] V G H HD HD2 zbf Eff CallP CallV EndOK Fun Ret FinOK LoopI LoopW EndW HR vs2 RN Cnd H4
theorem zqB {l : List Tok} (hl : TokOK l) : ∀ f, zhZ l f /\ zv6 l f /\ zkc l f := by
 intro f
 induction f using Nat.strongRecOn with
 | _ f ih =>
  cases f with
  | zero => exact ⟨fun p form i nx _ _ h => by omega, fun p form i nx _ _ h => by omega, fun p i nx _ _ h => by omega⟩
  | succ f =>
   obtain ⟨h1, h2, h3⟩ := ih f (by omega);exact ⟨ztH hl (fun g hg => (ih g (by omega)).1) h2, zmT hl h1 h3, zls hl h1⟩
def Exp.lev : Exp -> Int
 | .mk _ _ _ _ args => (args.map fun e => e.lev).foldl max 0 + 1
theorem Exp.zjb (e : Exp) : e.lev = (e.args.map Exp.lev).foldl max 0 + 1 := by
 cases e with
 | mk op n u s args => rw [Exp.lev]; rfl
theorem zdr : ∀ (l : List Int) (a : Int), a <= l.foldl max a /\ ∀ x ∈ l, x <= l.foldl max a
 | [], a => ⟨by simp, fun x h => by simp at h⟩
 | b :: l, a => by
  obtain ⟨h1, h2⟩ := zdr l (max a b);refine ⟨by simp only [List.foldl_cons]; omega, fun x hx => ?_⟩;rcases List.mem_cons.1 hx with rfl | hx
  ·simp only [List.foldl_cons]; omega
  ·exact h2 x hx
theorem Exp.lev_pos (e : Exp) : 1 <= e.lev := by
 rw [Exp.zjb];have := (zdr (e.args.map Exp.lev) 0).1;omega
theorem Exp.znz {e x : Exp} (h : x ∈ e.args) : SizeOf.sizeOf x < SizeOf.sizeOf e := by
 cases e with
 | mk op n u s args =>
  have := List.sizeOf_lt_of_mem h;simp only [Exp.args] at this;simp only [Exp.mk.sizeOf_spec];omega
theorem zo1 : ∀ (n : Nat) (e : Exp), SizeOf.sizeOf e <= n -> e.lev <= 1000000000 -> Fun Tryz.prog 120 [.u (.agg e.row)] (· = .u (.int .i64 e.lev)) := by
 intro n
 induction n with
 | zero =>
  intro e h;cases e with
  | mk op n u s args => simp only [Exp.mk.sizeOf_spec] at h; omega
 | succ n ih =>
  intro e hs he;have hx : ∀ x ∈ e.args, Fun Tryz.prog 120 [.u (.agg [.int .i64 x.op, .int .i64 x.n, .int .i64 x.unit, .str x.s, .sl (x.args.map Exp.row)])] (· = .u (.int .i64 x.lev)) := fun x hx => by
   rw [<- Exp.row_eq];refine ih x (by have := Exp.znz hx; omega) ?_;have := (zdr (e.args.map Exp.lev) 0).2 x.lev (List.mem_map.2 ⟨x, hx, rfl⟩);rw [Exp.zjb] at he;omega
  have hlb : ∀ k, ((e.args.map Exp.lev).take k).foldl max 0 <= 1000000000 := fun k => by
   rw [<- List.map_take];rw [Exp.zjb] at he;have h2 : (e.args.map Exp.lev).foldl max 0 = (e.args.drop k |>.map Exp.lev).foldl max ((e.args.take k |>.map Exp.lev).foldl max 0) := by
    rw [<- List.foldl_append, <- List.map_append, List.take_append_drop]
   have := (zdr (e.args.drop k |>.map Exp.lev) ((e.args.take k |>.map Exp.lev).foldl max 0)).1;omega
  rw [Exp.row_eq, Exp.zjb];generalize hA : e.args = A at *;rw [Exp.zjb, hA] at he;refine Fun.run Tryz.func120 Tryz.ntmps120 Tryz.results120 rfl (by simp) fun Γ hn => ?_; simp only [zzE, zzC, zzD];refine zw0 (x := 0) (j := 4) rfl rfl fun hl => ?_;simp at hl
  repeat' (first
  | (refine zaf rfl ?_; simp)
  | fail)
  refine zdd (α := { k : Nat // k <= A.length }) [0, 1, 2, 7, 8] (fun k => [(9, .u (.int .i64 k.1)), (3, .u (.int .i64 (((A.map Exp.lev).take k.1).foldl max 0)))]) (fun k => A.length - k.1) ⟨0, by omega⟩ ?_ ?_
  ·exact (Wk.env rfl rfl rfl (by simp [wkE, St.lp, zax, zaa, getK] <;> (try (intros; simp_all; done)) <;> (try (intros; omega)) <;> (try grind)))
  rintro ⟨k, hk⟩;simp;rcases hy : A[k]? with _ | y
  ·have hge : A.length <= k := by simpa using hy
   have hb := hlb k;rw [List.take_of_length_le (by simpa using hge : (A.map Exp.lev).length <= k)] at hb ⊢;have hb0 := (zdr (A.map Exp.lev) 0).1;generalize (A.map Exp.lev).foldl max 0 = M at *
   repeat' (first
  | (refine Cnd.of (fun hc => ?_) (fun hc => ?_) <;> (try (exfalso; omega)) <;> (try simp [hy]))
  | (refine zaf rfl ?_; simp [hy])
  | (refine And.intro (by omega) ?_)
  | fail)
   (refine Pst.of ?_; simp)
  ·have hlt : k < A.length := (List.getElem?_eq_some_iff.1 hy).1;have hfn := hx y (List.mem_of_getElem? hy);have ht : ((A.map Exp.lev).take (k + 1)).foldl max 0 = max (((A.map Exp.lev).take k).foldl max 0) y.lev := by
    rw [List.take_add_one, List.getElem?_map, hy];simp
   have hb := hlb (k + 1);rw [ht] at hb;have hb0 := (zdr ((A.map Exp.lev).take k) 0).1;generalize hM : ((A.map Exp.lev).take k).foldl max 0 = M at *;have hyp := y.lev_pos
   repeat' (first
  | (refine Cnd.of (fun hc => ?_) (fun hc => ?_) <;> (try (exfalso; omega)) <;> (try simp [hy, Exp.row_eq]))
  | (refine zaf rfl ?_; simp [hy, Exp.row_eq])
  | (refine And.intro (by omega) ?_)
  | (refine CallP.f2 rfl (hfn) (by first | simp [hy, Exp.row_eq] <;> rfl | fail) ?_; simp [hy, Exp.row_eq])
  | fail)
   refine LoopW.next ⟨k + 1, hlt⟩ (by show A.length - (k + 1) < A.length - k; omega) ?_
   exact (Wk.zdw (by simp [hn, ht] <;> grind))
end Go.Proofs.YtmlpcgkaonifcaaGreatDoor
namespace Go.Proofs.YtmlpcgkaonifcaaGreatDoor
open Go Go.VL
def zwg (l : List Tok) (p : Nat) (least most : Int) : PR Int := match l[p]? with
 | none => .stop 0 0
 | some t => if t.kind = 2 then if least <= t.n /\ t.n <= most then .ok t.n (p + 1) else .stop t.pos 3 else .stop t.pos 12
def zeT (l : List Tok) (p : Nat) (word : W8) (least most : Int) (behind : List W8) : PR Int :=
 if isB l p word = true then (zwg l (p + 1) least most).bind fun n q => (zcV l q behind).bind fun _ r => .ok n r else .ok 0 p
def zfo (l : List Tok) (p : Nat) : PR Exp := (zfu l (4 * l.length + 3) p 0).bind fun e q =>
 if isB l q [59] = true then if e.lev <= 12 then .ok e (q + 1) else .stop (zeo l q) 6 else .stop (zeo l q) 12
def zm8 (l : List Tok) (p : Nat) : PR (Int × Bool) := (zcV l p [[99, 105, 114, 99, 108, 101]]).bind fun _ q =>
 if isB l q [114, 111, 116, 97, 116, 105, 110, 103] = true then (zcV l (q + 1) [[59]]).bind fun _ r => .ok (0, false) r
 else if isB l q [115, 97, 118, 105, 110, 103] = true then (zcV l (q + 1) [[59]]).bind fun _ r => .ok (2, false) r
 else (zcV l q [[98, 105, 100, 100, 105, 110, 103]]).bind fun _ r => if isB l r [115, 101, 97, 108, 101, 100] = true then (zcV l (r + 1) [[59]]).bind fun _ r => .ok (1, true) r else (zcV l r [[59]]).bind fun _ r => .ok (1, false) r
def ordersW : List W8 := [[106, 111, 105, 110], [100, 114, 97, 119], [110, 101, 101, 100]]
def zit (l : List Tok) (p : Nat) : PR Int :=
 if isB l p [111, 114, 100, 101, 114] = true then match ordersW.findIdx? fun w => isB l (p + 1) w with
  | some i => (zcV l (p + 2) [[59]]).bind fun _ r => .ok i r
  | none => .stop (zeo l (p + 1)) 12
 else .ok 0 p
def ziH (l : List Tok) : Nat -> Nat -> List Let -> PR (List Let)
 | 0, _, _ => .stop 0 0
 | f + 1, p, acc => if isB l p [108, 101, 116] = true then
   if acc.length < 20 then match l[p + 1]? with
    | none => .stop 0 0
    | some t => if t.kind = 1 ∧ zfe t.text = true then
          if (acc.any fun x => decide (x.name = t.text)) = true then .stop t.pos 5
          else (zcV l (p + 2) [[61]]).bind fun _ q => (zfo l q).bind fun e r => ziH l f r (acc ++ [⟨t.text, e⟩])
     else .stop t.pos 12
   else .stop (zeo l p) 6
  else .ok acc p
def nothingE : Exp := .mk 0 0 3 [] []
def zeQ (l : List Tok) (p : Nat) (word : W8) : PR Exp := if isB l p word = true then zfo l (p + 1) else .ok nothingE p
def zm1 (l : List Tok) (p : Nat) (word : W8) : PR Unit := if isB l p word = true then .ok () p else .stop (zeo l p) 12
def zvD (l : List Tok) (p : Nat) : PR Unit := match l[p]? with | some t => if t.kind = 0 then .ok () p else .stop t.pos 12 | none => .stop 0 0
def zvU (l : List Tok) : PR By :=
 (zm8 l 0).bind fun k p => (zm1 l p [112, 101, 114, 105, 111, 100]).bind fun _ p => (zeT l p [112, 101, 114, 105, 111, 100] 1 1000 [[100, 97, 121, 115], [59]]).bind fun period p =>
 (zm1 l p [108, 97, 115, 116]).bind fun _ p => (zeT l p [108, 97, 115, 116] 1 1000 [[59]]).bind fun last p =>
 (zeT l p [103, 114, 97, 99, 101] 0 1000 [[100, 97, 121, 115], [59]]).bind fun grace p => (zeT l p [119, 97, 105, 116] 0 1000 [[100, 97, 121, 115], [59]]).bind fun wait p =>
 (zit l p).bind fun order p => (zeT l p [98, 97, 99, 107, 115] 0 60 [[59]]).bind fun backs p => (zeT l p [118, 111, 105, 99, 101, 115] 0 1000 [[112, 101, 114], [109, 105, 108, 108, 101], [59]]).bind fun voices p =>
 (zeT l p [106, 117, 114, 121] 0 60 [[59]]).bind fun jury p => (zeT l p [102, 117, 110, 100] 0 1000 [[112, 101, 114], [109, 105, 108, 108, 101], [59]]).bind fun fund p =>
 (ziH l 21 p []).bind fun lets p => (zcV l p [[100, 117, 101]]).bind fun _ p => (zfo l p).bind fun due p =>
 (zeQ l p [102, 105, 110, 101]).bind fun fine p => (zeQ l p [112, 97, 121]).bind fun pay p => (zeQ l p [99, 111, 118, 101, 114]).bind fun cover p => (zeQ l p [104, 111, 108, 100]).bind fun hold p =>
 (zvD l p).bind fun _ p => .ok ⟨k.1, period, grace, wait, last, order, k.2, backs, voices, jury, fund, lets, due, fine, pay, cover, hold⟩ p
def StopAt (l : List Tok) (p : Nat) (S : List W8) : Prop := ∀ v, v ∉ S -> isB l p v = false
theorem StopAt.head {l p} {w : W8} {b : List W8} (h : Reads l p (w :: b)) : StopAt l p [w] := fun v hv => by
 rw [h.isB]; exact decide_eq_false fun e => hv (by simp [e])
end Go.Proofs.YtmlpcgkaonifcaaGreatDoor
namespace Go.Proofs.YtmlpcgkaonifcaaGreatDoor
open Go Go.VL
attribute [local simp] HS zbw zc2 zcq evPure opd uOf zay St.put St.at getK binD binI binS binB nilD aggD zfJ zge lookD lookR zcn rangeS Go.VL.nextD Go.VL.nextS zcr zgk zgh zfs zcv mkV zbi zaT zaS zaR zc0 zaP zba zbs mapEff zdE zfp Key.kk shiftI arith unD convD zdu loadD cellsAt fieldAddrD fieldD indexAddrD indexSlD arrAddr indexD sliceD cutD lenD minmaxD nilCheckD buildD fillD zb0 zc7 zeD setAll zcW zef zck zfv zcj St.add zaw zbB rowsOf zdg zcw zad zac zaa zbz zda za3 entry zbO zbT valD zcm zcB zfw zdb zdc zb4 zbP zam zaW zbj delAll effD St.effS zcF zaU zaH zcG zaV zaJ zbY zaI zaA zbZ zcD zbv zbX za9 zbV zbW zar mkD zcl zbG zbK zam zcu D.ids Op.operands Call.operands zbH makeIfD makeFuncD typeAssertD zgd zdm zdn zf8 zco IntKind.bits zct zaz List.take_of_length_le List.range_succ zcO zcf zcP zcK zbD zb6 zb8 zcL zca zbe zb9 zb7 zhc zce zcM zaZ zaL zcN za0 zaN zcd zaM zaF zcS zcT zha zab frzN frz1 zav zau St.frz St.frzS frzS fv za1 zbm zbn frzObS zat zan frz zbL zbq zbr zbN zb5 zcc za7 St.norm St.lp St.only zax wkE wkO wkU Ob.under D.under zaj zak zcQ zcg zcR h4s zea zaC zbC List.zipIdx_cons List.zipIdx_nil zzC zzD Nat.zero_add
attribute [local irreducible] V G H HD HD2 HD4 zhd RetX zbf Eff CallP CallV EndOK Fun Ret FinOK LoopI LoopW EndW HR vs2 RN Cnd H4
theorem zq8 {s : List UInt8} : ∀ (f p : Nat) (l : List Tok), zq9 f s p = .ok l -> s.length < p + f -> p <= s.length ->
  (∀ (i : Nat) (t : Tok), l[i]? = some t -> t.kind ≠ 0 -> i + 1 < l.length) /\ l.length <= s.length - p + 1 /\ 0 < l.length
 | 0, p, l, _, h2, h3 => by omega
 | f + 1, p, l, h, h2, h3 => by
  rw [zq9] at h;have hle := zeG zc1 (s.drop p);rw [List.length_drop] at hle;split at h
  ·cases h;refine ⟨fun i t hi hk => ?_, by simp, by simp⟩;rcases i with _ | i
   ·simp at hi;subst hi;exact absurd rfl hk
   ·simp at hi
  ·rename_i c r hd;have hdl : (s.drop (p + zdt zc1 (s.drop p))).length = r.length + 1 := by rw [hd]; rfl
   rw [List.length_drop] at hdl;split at h
   ·cases h
   ·rename_i t ht;obtain ⟨ht1, ht2⟩ := zhr ht;simp only [List.length_cons] at ht2;split at h
    ·cases h
    ·rename_i l' hl';cases h;obtain ⟨g1, g2, g3⟩ := zq8 f _ l' hl' (by omega) (by omega);refine ⟨fun i t' hi hk => ?_, by simp only [List.length_cons]; omega, by simp⟩;rcases i with _ | i
     ·simp; exact g3
     ·simp only [List.getElem?_cons_succ] at hi;have := g1 i t' hi hk;simp only [List.length_cons];omega
theorem zvk {s : List UInt8} {l : List Tok} (h : zpP s = .ok l) : TokOK l /\ l.length <= 2001 /\ 0 < l.length := by
 unfold zpP at h;split at h
 ·cases h
 ·obtain ⟨g1, g2, g3⟩ := zq8 _ _ _ h (by omega) (by omega);exact ⟨⟨g1, by omega⟩, by omega, g3⟩
theorem Exp.zmv {op n u : Int} {s : List UInt8} {args : List Exp} {B : Int} (h : ∀ x ∈ args, x.lev <= B) (h0 : 0 <= B) : (Exp.mk op n u s args).lev <= B + 1 := by
 rw [Exp.zjb];simp only [Exp.args];have : ∀ (l : List Int) (a : Int), a <= B -> (∀ x ∈ l, x <= B) -> l.foldl max a <= B := by
  intro l
  induction l with
  | nil => intro a ha _; exact ha
  | cons b l ih => intro a ha hl; exact ih _ (by have := hl b (by simp); omega) fun x hx => hl x (by simp [hx])
 have := this (args.map Exp.lev) 0 h0 (fun x hx => by obtain ⟨y, hy, rfl⟩ := List.mem_map.1 hx; exact h y hy);omega
theorem zly {l : List Tok} : ∀ (f : Nat),
  (∀ p form e q, zfu l f p form = .ok e q -> e.lev <= f * f + 1) /\
  (∀ form e own p e' q, zgb l f form e own p = .ok e' q -> e'.lev <= max e.lev (f * f + 1) + f) /\
  (∀ p form e q, zcx l f p form = .ok e q -> e.1.lev <= f * f + 1) /\
  (∀ p e q, zbE l f p = .ok e q -> e.lev <= f * f + 1)
 | 0 => ⟨fun _ _ _ _ h => by simp [zfu] at h, fun _ _ _ _ _ _ h => by simp [zgb] at h, fun _ _ _ _ h => by simp [zcx] at h, fun _ _ _ h => by simp [zbE] at h⟩
 | f + 1 => by
  obtain ⟨he, hlo, hpr, hpm⟩ := zly f;have hsq : ((f + 1 : Nat) : Int) * ((f + 1 : Nat) : Int) = (f : Int) * f + 2 * f + 1 := by
   rw [show ((f + 1 : Nat) : Int) = (f : Int) + 1 by omega, Int.add_mul, Int.mul_add]; omega
  rw [hsq];have h0 : (0 : Int) <= (f : Int) * f := Int.mul_nonneg (by omega) (by omega);generalize hF : (f : Int) * f = F at *;refine ⟨fun p form e q h => ?_, fun form e own p e' q h => ?_, fun p form e q h => ?_, fun p e q h => ?_⟩
  ·rw [zfu] at h;obtain ⟨a, r, h1, h2⟩ := PR.zaO h;have g1 := hpr _ _ _ _ h1;have g2 := hlo _ _ _ _ _ _ h2;omega
  ·rw [zgb] at h;split at h
   ·cases h; omega
   ·split at h
    ·cases h; omega
    ·obtain ⟨a, r, h1, h2⟩ := PR.zaO h;have g1 := he _ _ _ _ h1;have g2 := hlo _ _ _ _ _ _ h2;rename_i x _ _;have g3 := Exp.zmv (op := x.op) (n := 0) (u := 0) (s := []) (args := [e, a]) (B := max e.lev (F + 1)) (by
      intro y hy;simp only [List.mem_cons, List.not_mem_nil, or_false] at hy;rcases hy with rfl | rfl <;> omega) (by omega)
     omega
  ·rw [zcx] at h;split at h
   ·obtain ⟨a, r, h1, h⟩ := PR.zaO h;obtain ⟨_, r2, h2, h⟩ := PR.zaO h;obtain ⟨b, r3, h3, h⟩ := PR.zaO h;obtain ⟨_, r4, h4, h⟩ := PR.zaO h;obtain ⟨c, r5, h5, h⟩ := PR.zaO h;cases h;have g1 := he _ _ _ _ h1;have g3 := he _ _ _ _ h3;have g5 := he _ _ _ _ h5;have := Exp.zmv (op := 13) (n := 0) (u := 0) (s := []) (args := [a, b, c]) (B := F + 1) (by
     intro y hy;simp only [List.mem_cons, List.not_mem_nil, or_false] at hy;rcases hy with rfl | rfl | rfl <;> omega) (by omega)
    simp only;omega
   ·split at h
    ·obtain ⟨a, r, h1, h⟩ := PR.zaO h;cases h;have g1 := he _ _ _ _ h1;have := Exp.zmv (op := 12) (n := 0) (u := 0) (s := []) (args := [a]) (B := F + 1) (by
      intro y hy;simp only [List.mem_cons, List.not_mem_nil, or_false] at hy;rcases hy with rfl; omega) (by omega)
     simp only;omega
    ·obtain ⟨a, r, h1, h⟩ := PR.zaO h;cases h;have g1 := hpm _ _ _ h1;simp only;omega
  ·have leaf : ∀ (op n u : Int) (s : List UInt8), (Exp.mk op n u s []).lev <= F + 2 * f + 1 + 1 := fun op n u s => by
    have := Exp.zmv (op := op) (n := n) (u := u) (s := s) (args := []) (B := 0) (by simp) (by omega);omega
   rw [zbE] at h;split at h
   ·cases h
   ·split at h
    ·obtain ⟨a, r, h1, h⟩ := PR.zaO h;cases h; exact leaf ..
    split at h
    ·cases h; exact leaf ..
    split at h
    ·cases h; exact leaf ..
    split at h
    ·obtain ⟨_, r2, h2, h⟩ := PR.zaO h;obtain ⟨a, r3, h3, h⟩ := PR.zaO h;obtain ⟨_, r4, h4, h⟩ := PR.zaO h;obtain ⟨b, r5, h5, h⟩ := PR.zaO h;obtain ⟨_, r6, h6, h⟩ := PR.zaO h;have g3 := he _ _ _ _ h3;have g5 := he _ _ _ _ h5;have := Exp.zmv (op := if isB l p [109, 97, 120] = true then 7 else 6) (n := 0) (u := 0) (s := []) (args := [a, b]) (B := F + 1) (by
      intro y hy;simp only [List.mem_cons, List.not_mem_nil, or_false] at hy;rcases hy with rfl | rfl <;> omega) (by omega)
     cases h;omega
    split at h
    ·obtain ⟨a, r3, h3, h⟩ := PR.zaO h;obtain ⟨_, r4, h4, h⟩ := PR.zaO h;cases h;have g3 := he _ _ _ _ h3;omega
    split at h
    ·cases h; exact leaf ..
    ·cases h
def zwA (l : List Tok) (p : Nat) : Int := match l[p]? with | some t => t.kind | none => 0
def zic : Exp := .mk 0 0 0 [] []
theorem zoS (l : List Tok) (p : Nat) (a b : Int) (i nx : Nat) (hi : i < nx) (hp : p < l.length) (hl : TokOK l) :
  RetX Tryz.prog 116 [.ptr i 0, zkD a, zkD b] [(i, pOb l p)] nx (PPost l i nx zkD (zwg l p a b)) := by
 have hne := zbl hi;obtain ⟨t, ht⟩ : ∃ t, l[p]? = some t := ⟨_, List.getElem?_eq_getElem hp⟩;have hnx := zdi l p t ht hl.len;have hll := hl.len;have hc1 := fun e nx' (h : nx <= nx') => zf5 l p e i nx' (by omega);have hc2 := fun e nx' (h : nx <= nx') => zex l p t e i nx' (by omega) ht hl.len;rw [zwg, ht];by_cases hk2 : t.kind = 2
 ·simp only [hk2, if_true];by_cases h1 : a <= t.n
  ·by_cases h2 : t.n <= b
   ·simp only [h1, h2, and_self, if_true];refine RetX.runW Tryz.func116 Tryz.ntmps116 rfl (by simp) fun Γ hn hpan => ?_
    repeat' (first
  | (refine zaf rfl ?_; simp [hne, hk2, h1, h2, del])
  | (refine And.intro (by omega) ?_)
  | (refine CallP.f2 rfl (hnx) (by first | simp [hne, hk2, h1, h2, del] <;> rfl | fail) ?_; simp [hne, hk2, h1, h2, del])
  | (refine CallP.ok1 (hc1 _ _ (by first | omega | (simp <;> omega) | fail)) (by first | (simp [hne, hk2, h1, h2, del, zaa, getK, zab, zac]; done) | fail) (by rfl) (by first | assumption | (simp; done) | fail) (by rfl) (by simp) ?_; (try simp [hne, hk2, h1, h2, del]))
  | fail)
    (refine EndW.z ([(i, pOb l (p + 1))]) (N := nx) Tryz.results116 (by simp [hne, hi] <;> omega) ?_; simp [hne, hi])
    exact PPost.zdv rfl rfl rfl
   ·simp only [h1, h2, and_false, if_false];refine RetX.runW Tryz.func116 Tryz.ntmps116 rfl (by simp) fun Γ hn hpan => ?_
    repeat' (first
  | (refine zaf rfl ?_; simp [hne, hk2, h1, h2, del])
  | (refine CallP.f2 rfl (hnx) (by first | simp [hne, hk2, h1, h2, del] <;> rfl | fail) ?_; simp [hne, hk2, h1, h2, del])
  | (refine CallP.ok1 (hc1 _ _ (by first | omega | (simp <;> omega) | fail)) (by first | (simp [hne, hk2, h1, h2, del, zaa, getK, zab, zac]; done) | fail) (by rfl) (by first | assumption | (simp; done) | fail) (by rfl) (by simp) ?_; (try simp [hne, hk2, h1, h2, del]))
  | (refine CallP.zgg (hc2 _ _ (by first | omega | (simp <;> omega) | fail)) (by first | (simp [hne, hk2, h1, h2, del, zaa, getK, zab, zac]; done) | fail) (by rfl) (by first | assumption | (simp; done) | fail) (by rfl) (by simp) ?_; rintro ob' ⟨q', rfl⟩; refine ⟨_, Wk.refl _, ?_⟩)
  | fail)
    (refine hpan _ _ (PanG.k ([(i, pOb l q')]) (nx) (by simp [hn, hi, hne, zab, zac, zaa, getK] <;> omega) ?_); try simp)
    exact PPost.zbd (by simp [PR.bind, *])
  ·simp only [h1, false_and, if_false];refine RetX.runW Tryz.func116 Tryz.ntmps116 rfl (by simp) fun Γ hn hpan => ?_
   repeat' (first
  | (refine zaf rfl ?_; simp [hne, hk2, h1, del])
  | (refine CallP.f2 rfl (hnx) (by first | simp [hne, hk2, h1, del] <;> rfl | fail) ?_; simp [hne, hk2, h1, del])
  | (refine CallP.ok1 (hc1 _ _ (by first | omega | (simp <;> omega) | fail)) (by first | (simp [hne, hk2, h1, del, zaa, getK, zab, zac]; done) | fail) (by rfl) (by first | assumption | (simp; done) | fail) (by rfl) (by simp) ?_; (try simp [hne, hk2, h1, del]))
  | (refine CallP.zgg (hc2 _ _ (by first | omega | (simp <;> omega) | fail)) (by first | (simp [hne, hk2, h1, del, zaa, getK, zab, zac]; done) | fail) (by rfl) (by first | assumption | (simp; done) | fail) (by rfl) (by simp) ?_; rintro ob' ⟨q', rfl⟩; refine ⟨_, Wk.refl _, ?_⟩)
  | fail)
   (refine hpan _ _ (PanG.k ([(i, pOb l q')]) (nx) (by simp [hn, hi, hne, zab, zac, zaa, getK] <;> omega) ?_); try simp)
   exact PPost.zbd (by simp [PR.bind, *])
 ·simp only [hk2, if_false];refine RetX.runW Tryz.func116 Tryz.ntmps116 rfl (by simp) fun Γ hn hpan => ?_
  repeat' (first
  | (refine zaf rfl ?_; simp [hne, hk2, del])
  | (refine CallP.f2 rfl (hnx) (by first | simp [hne, hk2, del] <;> rfl | fail) ?_; simp [hne, hk2, del])
  | (refine CallP.zgg (hc2 _ _ (by first | omega | (simp <;> omega) | fail)) (by first | (simp [hne, hk2, del, zaa, getK, zab, zac]; done) | fail) (by rfl) (by first | assumption | (simp; done) | fail) (by rfl) (by simp) ?_; rintro ob' ⟨q', rfl⟩; refine ⟨_, Wk.refl _, ?_⟩)
  | fail)
  (refine hpan _ _ (PanG.k ([(i, pOb l q')]) (nx) (by simp [hn, hi, hne, zab, zac, zaa, getK] <;> omega) ?_); try simp)
  exact PPost.zbd (by simp [PR.bind, *])
theorem zqL {l : List Tok} (hl : TokOK l) {p q : Nat} {a b n : Int} (h : zwg l p a b = .ok n q) : p <= q /\ q < l.length := by
 unfold zwg at h;split at h
 ·cases h
 ·rename_i t ht;split at h
  ·rename_i hk2;split at h
   ·cases h;exact ⟨by omega, hl.fin p t ht (by omega)⟩
   ·cases h
  ·cases h
theorem zeI (l : List Tok) (p : Nat) (w : List UInt8) (a b : Int) (ws : List (List UInt8)) (i nx : Nat) (hi : i < nx) (hp : p < l.length) (hl : TokOK l) (hw : ws.length <= 100) :
  RetX Tryz.prog 87 [.ptr i 0, .u (.str w), zkD a, zkD b, .u (.sl (ws.map fun w => [.str w]))] [(i, pOb l p)] nx (PPost l i nx zkD (zeT l p w a b ws)) := by
 have hne := zbl hi;have hh1 := fun nx' (h : nx <= nx') => zb3 l p w i nx' (by omega) hp hl.len;rw [zeT];cases hb : isB l p w with
 | false =>
  simp only [hb, Bool.false_eq_true, if_false] at hh1 ⊢;refine RetX.runW Tryz.func87 Tryz.ntmps87 rfl (by simp) fun Γ hn hpan => ?_
  repeat' (first
  | (refine zaf rfl ?_; simp [hne, del])
  | (refine CallP.ok1 (hh1 _ (by first | omega | (simp <;> omega) | fail)) (by first | (simp [hne, del, zaa, getK, zab, zac]; done) | fail) (by rfl) (by first | assumption | (simp; done) | fail) (by rfl) (by simp) ?_; (try simp [hne, del]))
  | fail)
  (refine EndW.z ([(i, pOb l p)]) (N := nx) Tryz.results87 (by simp [hne, hi] <;> omega) ?_; simp [hne, hi])
  exact PPost.zdv rfl rfl rfl
 | true =>
  have hp2 := zbR hl hb;simp only [hb, if_true] at hh1 ⊢;have hn1 := fun nx' (h : nx <= nx') => zoS l (p + 1) a b i nx' (by omega) hp2 hl;cases hr0 : zwg l (p + 1) a b with
  | stop pos e =>
   simp only [hr0] at hn1;refine RetX.runW Tryz.func87 Tryz.ntmps87 rfl (by simp) fun Γ hn hpan => ?_
   repeat' (first
  | (refine zaf rfl ?_; simp [hne, del])
  | (refine CallP.ok1 (hh1 _ (by first | omega | (simp <;> omega) | fail)) (by first | (simp [hne, del, zaa, getK, zab, zac]; done) | fail) (by rfl) (by first | assumption | (simp; done) | fail) (by rfl) (by simp) ?_; (try simp [hne, del]))
  | (refine CallP.zgg (hn1 _ (by first | omega | (simp <;> omega) | fail)) (by first | (simp [hne, del, zaa, getK, zab, zac]; done) | fail) (by rfl) (by first | assumption | (simp; done) | fail) (by rfl) (by simp) ?_; rintro ob' ⟨q', rfl⟩; refine ⟨_, Wk.refl _, ?_⟩)
  | fail)
   (refine hpan _ _ (PanG.k ([(i, pOb l q')]) (nx) (by simp [hn, hi, hne, zab, zac, zaa, getK] <;> omega) ?_); try simp)
   exact PPost.zbd (by simp [PR.bind, *])
  | ok n q0 =>
   simp only [hr0] at hn1;obtain ⟨g0a, g0b⟩ := zqL hl hr0;have hw1 := fun nx' (h : nx <= nx') => zkf l q0 ws i nx' (by omega) g0b hl hw;cases hr1 : zcV l q0 ws with
   | stop pos e =>
    simp only [hr1] at hw1;refine RetX.runW Tryz.func87 Tryz.ntmps87 rfl (by simp) fun Γ hn hpan => ?_
    repeat' (first
  | (refine zaf rfl ?_; simp [hne, del])
  | (refine CallP.ok1 (hh1 _ (by first | omega | (simp <;> omega) | fail)) (by first | (simp [hne, del, zaa, getK, zab, zac]; done) | fail) (by rfl) (by first | assumption | (simp; done) | fail) (by rfl) (by simp) ?_; (try simp [hne, del]))
  | (refine CallP.ok1 (hn1 _ (by first | omega | (simp <;> omega) | fail)) (by first | (simp [hne, del, zaa, getK, zab, zac]; done) | fail) (by rfl) (by first | assumption | (simp; done) | fail) (by rfl) (by simp) ?_; (try simp [hne, del]))
  | (refine CallP.zgg (hw1 _ (by first | omega | (simp <;> omega) | fail)) (by first | (simp [hne, del, zaa, getK, zab, zac]; done) | fail) (by rfl) (by first | assumption | (simp; done) | fail) (by rfl) (by simp) ?_; rintro ob' ⟨q', rfl⟩; refine ⟨_, Wk.refl _, ?_⟩)
  | fail)
    (refine hpan _ _ (PanG.k ([(i, pOb l q')]) (nx) (by simp [hn, hi, hne, zab, zac, zaa, getK] <;> omega) ?_); try simp)
    exact PPost.zbd (by simp [PR.bind, *])
   | ok u q =>
    simp only [hr1] at hw1;refine RetX.runW Tryz.func87 Tryz.ntmps87 rfl (by simp) fun Γ hn hpan => ?_
    repeat' (first
  | (refine zaf rfl ?_; simp [hne, del])
  | (refine CallP.ok1 (hh1 _ (by first | omega | (simp <;> omega) | fail)) (by first | (simp [hne, del, zaa, getK, zab, zac]; done) | fail) (by rfl) (by first | assumption | (simp; done) | fail) (by rfl) (by simp) ?_; (try simp [hne, del]))
  | (refine CallP.ok1 (hn1 _ (by first | omega | (simp <;> omega) | fail)) (by first | (simp [hne, del, zaa, getK, zab, zac]; done) | fail) (by rfl) (by first | assumption | (simp; done) | fail) (by rfl) (by simp) ?_; (try simp [hne, del]))
  | (refine CallP.ok1 (hw1 _ (by first | omega | (simp <;> omega) | fail)) (by first | (simp [hne, del, zaa, getK, zab, zac]; done) | fail) (by rfl) (by first | assumption | (simp; done) | fail) (by rfl) (by simp) ?_; (try simp [hne, del]))
  | fail)
    (refine EndW.z ([(i, pOb l q)]) (N := nx) Tryz.results87 (by simp [hne, hi] <;> omega) ?_; simp [hne, hi])
    exact PPost.zdv (by simp [PR.bind, *]) rfl rfl
theorem zeJ {l : List Tok} (hl : TokOK l) {p q : Nat} {w : List UInt8} {a b n : Int} {ws : List (List UInt8)} (h : zeT l p w a b ws = .ok n q) (hp : p < l.length) : p <= q /\ q < l.length := by
 unfold zeT at h;split at h
 ·obtain ⟨m, r, h1, h⟩ := PR.zaO h;have g1 := zqL hl h1;obtain ⟨m2, r2, h2, h⟩ := PR.zaO h;have g2 := zby hl _ h2 g1.2;cases h;exact ⟨by omega, g2.2⟩
 ·cases h; exact ⟨by omega, hp⟩
theorem zid (l : List Tok) (p : Nat) (i nx : Nat) (hi : i < nx) (hp : p < l.length) (hl : TokOK l) (hl2 : l.length <= 2001) :
  RetX Tryz.prog 92 [.ptr i 0] [(i, pOb l p)] nx (PPost l i nx ziU (zfo l p)) := by
 have hne := zbl hi;have hll := hl.len;rw [zfo];have hE := fun nx' (h : nx <= nx') => (zqB hl (4 * l.length + 3)).1 p 0 i nx' (by omega) hp (by omega) (by omega) (by omega);cases hr : zfu l (4 * l.length + 3) p 0 with
 | stop pos e =>
  simp only [hr] at hE;refine RetX.runW Tryz.func92 Tryz.ntmps92 rfl (by simp) fun Γ hn hpan => ?_
  repeat' (first
  | (refine zaf rfl ?_; simp [hne, del])
  | (refine CallP.zgg (hE _ (by first | omega | (simp <;> omega) | fail)) (by first | (simp [hne, del, zaa, getK, zab, zac]; done) | fail) (by rfl) (by first | assumption | (simp; done) | fail) (by rfl) (by simp) ?_; rintro ob' ⟨q', rfl⟩; refine ⟨_, Wk.refl _, ?_⟩)
  | fail)
  (refine hpan _ _ (PanG.k ([(i, pOb l q')]) (nx) (by simp [hn, hi, hne, zab, zac, zaa, getK] <;> omega) ?_); try simp)
  exact PPost.zbd (by simp [PR.bind, *])
 | ok y q =>
  have hEx := fun nx' h => zeu (hE nx' h) hr;obtain ⟨g0a, g0b⟩ := (zdB hl _).1 _ _ _ _ hr hp;have hlev := (zly (l := l) _).1 _ _ _ _ hr;have hlev2 : y.lev <= 1000000000 := by
   have h1 : ((4 * l.length + 3 : Nat) : Int) * ((4 * l.length + 3 : Nat) : Int) <= 8007 * 8007 := Int.mul_le_mul (by omega) (by omega) (by omega) (by omega);omega
  have hlv := zo1 (SizeOf.sizeOf y) y (Nat.le_refl _) hlev2;rw [Exp.row_eq] at hlv;obtain ⟨t, ht⟩ : ∃ t, l[q]? = some t := ⟨_, List.getElem?_eq_getElem g0b⟩;have his := zfr l q [59] g0b hl.len;have hpa : zeo l q = t.pos := by unfold zeo; rw [ht]
  have hc1 := fun e nx' (h : nx <= nx') => zf5 l q e i nx' (by omega);have hc2 := fun e nx' (h : nx <= nx') => zex l q t e i nx' (by omega) ht hl.len;rw [PR.bind_ok, hpa];cases hb : isB l q [59] with
  | false =>
   simp only [hb, Bool.false_eq_true, if_false] at his ⊢;refine RetX.runW Tryz.func92 Tryz.ntmps92 rfl (by simp) fun Γ hn hpan => ?_
   repeat' (first
  | (refine zaf rfl ?_; simp [hne, del])
  | (refine CallP.f2 rfl (his) (by first | simp [hne, del] <;> rfl | fail) ?_; simp [hne, del])
  | (refine CallP.ok1 (hEx _ (by first | omega | (simp <;> omega) | fail)) (by first | (simp [hne, del, zaa, getK, zab, zac]; done) | fail) (by rfl) (by first | assumption | (simp; done) | fail) (by rfl) (by simp) ?_; (try simp [hne, del]))
  | (refine CallP.zgg (hc2 _ _ (by first | omega | (simp <;> omega) | fail)) (by first | (simp [hne, del, zaa, getK, zab, zac]; done) | fail) (by rfl) (by first | assumption | (simp; done) | fail) (by rfl) (by simp) ?_; rintro ob' ⟨q', rfl⟩; refine ⟨_, Wk.refl _, ?_⟩)
  | fail)
   (refine hpan _ _ (PanG.k ([(i, pOb l q')]) (nx) (by simp [hn, hi, hne, zab, zac, zaa, getK] <;> omega) ?_); try simp)
   exact PPost.zbd (by simp [PR.bind, *])
  | true =>
   have hq2 := zbR hl hb;simp only [hb, if_true] at his ⊢;by_cases hv : y.lev <= 12
   ·simp only [hv, if_true];refine RetX.runW Tryz.func92 Tryz.ntmps92 rfl (by simp) fun Γ hn hpan => ?_
    repeat' (first
  | (refine zaf rfl ?_; simp [hne, del, hv])
  | (refine And.intro (by omega) ?_)
  | ((first | refine CallP.f2 rfl (his) (by first | simp [hne, del, hv] <;> rfl | fail) ?_ | refine CallP.f2 rfl (hlv) (by first | simp [hne, del, hv] <;> rfl | fail) ?_ | fail); simp [hne, del, hv])
  | (refine CallP.ok1 (hEx _ (by first | omega | (simp <;> omega) | fail)) (by first | (simp [hne, del, hv, zaa, getK, zab, zac]; done) | fail) (by rfl) (by first | assumption | (simp; done) | fail) (by rfl) (by simp) ?_; (try simp [hne, del, hv]))
  | (refine CallP.ok1 (hc1 _ _ (by first | omega | (simp <;> omega) | fail)) (by first | (simp [hne, del, hv, zaa, getK, zab, zac]; done) | fail) (by rfl) (by first | assumption | (simp; done) | fail) (by rfl) (by simp) ?_; (try simp [hne, del, hv]))
  | fail)
    refine EndW.norm ?_;simp [St.norm, za7, zbN, zb5, zcc, hne, zzA]
    (refine EndW.z ([(i, pOb l (q + 1))]) (N := nx) Tryz.results92 (by simp [hne, hi] <;> omega) ?_; simp [hne, hi])
    exact PPost.zdv rfl (by simp [Exp.row_eq]) rfl
   ·simp only [hv, if_false];refine RetX.runW Tryz.func92 Tryz.ntmps92 rfl (by simp) fun Γ hn hpan => ?_
    repeat' (first
  | (refine zaf rfl ?_; simp [hne, del, hv])
  | ((first | refine CallP.f2 rfl (his) (by first | simp [hne, del, hv] <;> rfl | fail) ?_ | refine CallP.f2 rfl (hlv) (by first | simp [hne, del, hv] <;> rfl | fail) ?_ | fail); simp [hne, del, hv])
  | (refine CallP.ok1 (hEx _ (by first | omega | (simp <;> omega) | fail)) (by first | (simp [hne, del, hv, zaa, getK, zab, zac]; done) | fail) (by rfl) (by first | assumption | (simp; done) | fail) (by rfl) (by simp) ?_; (try simp [hne, del, hv]))
  | (refine CallP.ok1 (hc1 _ _ (by first | omega | (simp <;> omega) | fail)) (by first | (simp [hne, del, hv, zaa, getK, zab, zac]; done) | fail) (by rfl) (by first | assumption | (simp; done) | fail) (by rfl) (by simp) ?_; (try simp [hne, del, hv]))
  | (refine CallP.zgg (hc2 _ _ (by first | omega | (simp <;> omega) | fail)) (by first | (simp [hne, del, hv, zaa, getK, zab, zac]; done) | fail) (by rfl) (by first | assumption | (simp; done) | fail) (by rfl) (by simp) ?_; rintro ob' ⟨q', rfl⟩; refine ⟨_, Wk.refl _, ?_⟩)
  | fail)
    (refine hpan _ _ (PanG.k ([(i, pOb l q')]) (nx) (by simp [hn, hi, hne, zab, zac, zaa, getK] <;> omega) ?_); try simp)
    exact PPost.zbd (by simp [PR.bind, *])
theorem zif {l : List Tok} (hl : TokOK l) {p q : Nat} {e : Exp} (h : zfo l p = .ok e q) (hp : p < l.length) : p <= q /\ q < l.length := by
 unfold zfo at h;obtain ⟨y, r, h1, h⟩ := PR.zaO h;have g1 := (zdB hl _).1 _ _ _ _ h1 hp;split at h
 ·rename_i hb;split at h
  ·cases h;exact ⟨by omega, zbR hl hb⟩
  ·cases h
 ·cases h
theorem zmX : Fun Tryz.prog 121 [] (· = .u (.agg nothingE.row)) := by
 simp only [nothingE, Exp.row, zzD];refine Fun.runW Tryz.func121 Tryz.ntmps121 rfl (by simp) fun Γ hn => ?_
 repeat' (first
  | (refine zaf rfl ?_; simp)
  | fail)
 refine EndW.norm ?_;simp [St.norm, za7, zbN, zb5, zcc];refine EndW.here ?_
 (refine EndOK.val (.inr rfl) ?_; simp [Tryz.results121])
theorem zf3 (l : List Tok) (p : Nat) (w : List UInt8) (i nx : Nat) (hi : i < nx) (hp : p < l.length) (hl : TokOK l) (hl2 : l.length <= 2001) :
  RetX Tryz.prog 93 [.ptr i 0, .u (.str w)] [(i, pOb l p)] nx (PPost l i nx ziU (zeQ l p w)) := by
 have hne := zbl hi;have hh1 := fun nx' (h : nx <= nx') => zb3 l p w i nx' (by omega) hp hl.len;rw [zeQ];cases hb : isB l p w with
 | false =>
  have h0 := zmX;simp only [nothingE, Exp.row, zzD] at h0;simp only [hb, Bool.false_eq_true, if_false] at hh1 ⊢;refine RetX.runW Tryz.func93 Tryz.ntmps93 rfl (by simp) fun Γ hn hpan => ?_
  repeat' (first
  | (refine zaf rfl ?_; simp [hne, del])
  | (refine CallP.f2 rfl (h0) (by first | simp [hne, del] <;> rfl | fail) ?_; simp [hne, del])
  | (refine CallP.ok1 (hh1 _ (by first | omega | (simp <;> omega) | fail)) (by first | (simp [hne, del, zaa, getK, zab, zac]; done) | fail) (by rfl) (by first | assumption | (simp; done) | fail) (by rfl) (by simp) ?_; (try simp [hne, del]))
  | fail)
  refine EndW.norm ?_;simp [St.norm, za7, zbN, zb5, zcc, hne, zzA]
  (refine EndW.z ([(i, pOb l p)]) (N := nx) Tryz.results93 (by simp [hne, hi] <;> omega) ?_; simp [hne, hi])
  exact PPost.zdv rfl (by simp [nothingE, Exp.row]) rfl
 | true =>
  have hp2 := zbR hl hb;simp only [hb, if_true] at hh1 ⊢;have hn1 := fun nx' (h : nx <= nx') => zid l (p + 1) i nx' (by omega) hp2 hl hl2;cases hr0 : zfo l (p + 1) with
  | stop pos e =>
   simp only [hr0] at hn1;refine RetX.runW Tryz.func93 Tryz.ntmps93 rfl (by simp) fun Γ hn hpan => ?_
   repeat' (first
  | (refine zaf rfl ?_; simp [hne, del])
  | (refine CallP.ok1 (hh1 _ (by first | omega | (simp <;> omega) | fail)) (by first | (simp [hne, del, zaa, getK, zab, zac]; done) | fail) (by rfl) (by first | assumption | (simp; done) | fail) (by rfl) (by simp) ?_; (try simp [hne, del]))
  | (refine CallP.zgg (hn1 _ (by first | omega | (simp <;> omega) | fail)) (by first | (simp [hne, del, zaa, getK, zab, zac]; done) | fail) (by rfl) (by first | assumption | (simp; done) | fail) (by rfl) (by simp) ?_; rintro ob' ⟨q', rfl⟩; refine ⟨_, Wk.refl _, ?_⟩)
  | fail)
   (refine hpan _ _ (PanG.k ([(i, pOb l q')]) (nx) (by simp [hn, hi, hne, zab, zac, zaa, getK] <;> omega) ?_); try simp)
   exact PPost.zbd (by simp [PR.bind, *])
  | ok n q0 =>
   have hn1 := fun nx' h => zeu (hn1 nx' h) hr0;refine RetX.runW Tryz.func93 Tryz.ntmps93 rfl (by simp) fun Γ hn hpan => ?_
   repeat' (first
  | (refine zaf rfl ?_; simp [hne, del])
  | (refine CallP.ok1 (hh1 _ (by first | omega | (simp <;> omega) | fail)) (by first | (simp [hne, del, zaa, getK, zab, zac]; done) | fail) (by rfl) (by first | assumption | (simp; done) | fail) (by rfl) (by simp) ?_; (try simp [hne, del]))
  | (refine CallP.ok1 (hn1 _ (by first | omega | (simp <;> omega) | fail)) (by first | (simp [hne, del, zaa, getK, zab, zac]; done) | fail) (by rfl) (by first | assumption | (simp; done) | fail) (by rfl) (by simp) ?_; (try simp [hne, del]))
  | fail)
   refine EndW.norm ?_;simp [St.norm, za7, zbN, zb5, zcc, hne, zzA]
   (refine EndW.z ([(i, pOb l q0)]) (N := nx) Tryz.results93 (by simp [hne, hi] <;> omega) ?_; simp [hne, hi])
   exact PPost.zdv rfl (by simp [Exp.row_eq]) rfl
theorem zf4 {l : List Tok} (hl : TokOK l) {p q : Nat} {w : List UInt8} {e : Exp} (h : zeQ l p w = .ok e q) (hp : p < l.length) : p <= q /\ q < l.length := by
 unfold zeQ at h;split at h
 ·rename_i hb;have := zif hl h (zbR hl hb);exact ⟨by omega, this.2⟩
 ·cases h; exact ⟨by omega, hp⟩
theorem _root_.Go.VL.CallP.pp {P : Program} {Γ : Ctx} {s : St} {k : St -> Prop} {dst : Option Tmp} {fop : Operand} {args : List Operand} {f caps} {ds : List D} {α : Type} {l : List Tok} {i : Nat} {ob : Ob} {val : α -> D} {r : PR α}
  (hret : RetX P f ds [(i, ob)] s.next (PPost l i s.next val r)) (hj : getK s.obs i = some ob) (hf : zam (opd s fop) = some (f, caps)) (hc : zae P f = true) (hds : args.map (opd s) ++ caps = ds) (hp : zay dst s)
  (hk : ∀ a q, r = .ok a q -> k (({ s with obs := del s.obs i ++ [(i, pOb l q)], next := s.next } : St).put dst (val a)))
  (hx : ∀ pos e q, r = .stop pos e -> ∃ s2, Wk Γ { s with obs := del s.obs i ++ [(i, pOb l q)], next := s.next } s2 /\ Γ.pan (chP pos e) s2) : CallP P Γ fop args dst s k :=
 CallP.x1 hret hj hf hc hds hp (fun d o1 nx' _ h => by
  cases r with
  | ok a q => obtain ⟨h1, h2, h3⟩ := h; cases h1; subst h2; subst h3; exact hk a q rfl
  | stop pos e => obtain ⟨h1, _⟩ := h; cases h1) (fun ch o1 nx' _ h => by
  cases r with
  | ok a q => obtain ⟨h1, _⟩ := h; cases h1
  | stop pos e => obtain ⟨h1, ⟨ob', ⟨q, rfl⟩, h2⟩, h3⟩ := h; cases h1; subst h2; subst h3; exact hx pos e q rfl)
abbrev kbD (x : Int × Bool) : D := .tup [.u (.int .i64 x.1), .u (.bool x.2)]
theorem ztr (l : List Tok) (p : Nat) (i nx : Nat) (hi : i < nx) (hp : p < l.length) (hl : TokOK l) :
  RetX Tryz.prog 84 [.ptr i 0] [(i, pOb l p)] nx (PPost l i nx kbD (zm8 l p)) := by
 have hne := zbl hi;have hll := hl.len;generalize hR : zm8 l p = R;rw [zm8] at hR;refine RetX.runW Tryz.func84 Tryz.ntmps84 rfl (by simp) fun Γ hn hpan => ?_
 repeat' (first
  | (refine zaf rfl ?_; simp [hne])
  | (refine zbp (by first | rfl | fail) (by first | simp [hne, frzN, frz1, zav, zau, St.frz, St.frzS, frzS, fv, za1, zbm, zbn, frzObS, zat, zan, del, frz, zbL] <;> rfl | fail) ?_)
  | fail)
 (refine CallP.pp (zgn hl [99, 105, 114, 99, 108, 101] (q := p) (i := i) (by first | omega | (simp <;> omega) | fail) hp) (by first | (simp [hi, hne, zzA, zaa, getK, zab, zac]; done) | fail) (by rfl) (by first | assumption | (simp; done) | fail) (by rfl) (by simp) (fun v1 q1 h1 => ?_) (fun pos e q' h1 => ⟨_, Wk.refl _, ?_⟩); rotate_left 1; (focus (rw [h1, PR.zdM] at hR; (refine hpan _ _ ⟨{ n := _, env := [], obs := [(i, pOb l q')], next := nx }, (Wk.cut rfl (by simp [hn]) (by simp [wkO, zaa, getK, zab, zac, Ob.under, D.under, zaj, zak, hi, hne, zzA, zab, zac, zaa, getK]) (by simp [wkU, zax, zaa, getK, D.under, hi, hne, zzA, zab, zac, zaa, getK]) (by simp [wkE, zax, zaa, getK, hi, hne, zzA, zab, zac, zaa, getK])), by simp [hn], ?_⟩; try simp); exact PPost.zbd hR.symm)); rw [h1, PR.bind_ok] at hR; (try simp [hi, hne, zzA]))
 obtain ⟨_, g1⟩ := zby hl _ h1 hp;have hh1 := fun nx' (h : nx <= nx') => zb3 l q1 [114, 111, 116, 97, 116, 105, 110, 103] i nx' (by omega) g1 hl.len;have hh2 := fun nx' (h : nx <= nx') => zb3 l q1 [115, 97, 118, 105, 110, 103] i nx' (by omega) g1 hl.len;by_cases c1 : isB l q1 [114, 111, 116, 97, 116, 105, 110, 103] = true
 ·have g2 := zbR hl c1;rw [if_pos c1] at hR;simp only [c1, if_true] at hh1
  repeat' (first
  | (refine CallP.ok1 (hh1 _ (by first | omega | (simp <;> omega) | fail)) (by first | (simp [hne, del, zzA, zaa, getK, zab, zac]; done) | fail) (by rfl) (by first | assumption | (simp; done) | fail) (by rfl) (by simp) ?_; (try simp [hne, del, zzA]))
  | (refine zbp (by first | rfl | fail) (by first | simp [hne, del, zzA, frzN, frz1, zav, zau, St.frz, St.frzS, frzS, fv, za1, zbm, zbn, frzObS, zat, zan, del, frz, zbL] <;> rfl | fail) ?_)
  | fail)
  (refine CallP.pp (zgn hl [59] (q := q1 + 1) (i := i) (by first | omega | (simp <;> omega) | fail) g2) (by first | (simp [hi, hne, zzA, zaa, getK, zab, zac]; done) | fail) (by rfl) (by first | assumption | (simp; done) | fail) (by rfl) (by simp) (fun v2 q2 h2 => ?_) (fun pos e q' h2 => ⟨_, Wk.refl _, ?_⟩); rotate_left 1; (focus (rw [h2, PR.zdM] at hR; (refine hpan _ _ ⟨{ n := _, env := [], obs := [(i, pOb l q')], next := nx }, (Wk.cut rfl (by simp [hn]) (by simp [wkO, zaa, getK, zab, zac, Ob.under, D.under, zaj, zak, hi, hne, zzA, zab, zac, zaa, getK]) (by simp [wkU, zax, zaa, getK, D.under, hi, hne, zzA, zab, zac, zaa, getK]) (by simp [wkE, zax, zaa, getK, hi, hne, zzA, zab, zac, zaa, getK])), by simp [hn], ?_⟩; try simp); exact PPost.zbd hR.symm)); rw [h2, PR.bind_ok] at hR; (try simp [hi, hne, zzA]))
  repeat' (first | fail)
  (refine EndW.z ([(i, pOb l q2)]) (N := nx) Tryz.results84 (by simp [hne, hi] <;> omega) ?_; simp [hne, hi])
  exact PPost.zdv hR.symm rfl rfl
 ·rw [if_neg c1] at hR;simp only [c1, Bool.false_eq_true, if_false] at hh1;by_cases c2 : isB l q1 [115, 97, 118, 105, 110, 103] = true
  ·have g2 := zbR hl c2;rw [if_pos c2] at hR;simp only [c2, if_true] at hh2
   repeat' (first
  | (refine CallP.ok1 (hh1 _ (by first | omega | (simp <;> omega) | fail)) (by first | (simp [hne, del, zzA, zaa, getK, zab, zac]; done) | fail) (by rfl) (by first | assumption | (simp; done) | fail) (by rfl) (by simp) ?_; (try simp [hne, del, zzA]))
  | (refine CallP.ok1 (hh2 _ (by first | omega | (simp <;> omega) | fail)) (by first | (simp [hne, del, zzA, zaa, getK, zab, zac]; done) | fail) (by rfl) (by first | assumption | (simp; done) | fail) (by rfl) (by simp) ?_; (try simp [hne, del, zzA]))
  | (refine zbp (by first | rfl | fail) (by first | simp [hne, del, zzA, frzN, frz1, zav, zau, St.frz, St.frzS, frzS, fv, za1, zbm, zbn, frzObS, zat, zan, del, frz, zbL] <;> rfl | fail) ?_)
  | fail)
   (refine CallP.pp (zgn hl [59] (q := q1 + 1) (i := i) (by first | omega | (simp <;> omega) | fail) g2) (by first | (simp [hi, hne, zzA, zaa, getK, zab, zac]; done) | fail) (by rfl) (by first | assumption | (simp; done) | fail) (by rfl) (by simp) (fun v2 q2 h2 => ?_) (fun pos e q' h2 => ⟨_, Wk.refl _, ?_⟩); rotate_left 1; (focus (rw [h2, PR.zdM] at hR; (refine hpan _ _ ⟨{ n := _, env := [], obs := [(i, pOb l q')], next := nx }, (Wk.cut rfl (by simp [hn]) (by simp [wkO, zaa, getK, zab, zac, Ob.under, D.under, zaj, zak, hi, hne, zzA, zab, zac, zaa, getK]) (by simp [wkU, zax, zaa, getK, D.under, hi, hne, zzA, zab, zac, zaa, getK]) (by simp [wkE, zax, zaa, getK, hi, hne, zzA, zab, zac, zaa, getK])), by simp [hn], ?_⟩; try simp); exact PPost.zbd hR.symm)); rw [h2, PR.bind_ok] at hR; (try simp [hi, hne, zzA]))
   repeat' (first | fail)
   (refine EndW.z ([(i, pOb l q2)]) (N := nx) Tryz.results84 (by simp [hne, hi] <;> omega) ?_; simp [hne, hi])
   exact PPost.zdv hR.symm rfl rfl
  ·rw [if_neg c2] at hR;simp only [c2, Bool.false_eq_true, if_false] at hh2
   repeat' (first
  | (refine CallP.ok1 (hh1 _ (by first | omega | (simp <;> omega) | fail)) (by first | (simp [hne, del, zzA, zaa, getK, zab, zac]; done) | fail) (by rfl) (by first | assumption | (simp; done) | fail) (by rfl) (by simp) ?_; (try simp [hne, del, zzA]))
  | (refine CallP.ok1 (hh2 _ (by first | omega | (simp <;> omega) | fail)) (by first | (simp [hne, del, zzA, zaa, getK, zab, zac]; done) | fail) (by rfl) (by first | assumption | (simp; done) | fail) (by rfl) (by simp) ?_; (try simp [hne, del, zzA]))
  | (refine zbp (by first | rfl | fail) (by first | simp [hne, del, zzA, frzN, frz1, zav, zau, St.frz, St.frzS, frzS, fv, za1, zbm, zbn, frzObS, zat, zan, del, frz, zbL] <;> rfl | fail) ?_)
  | fail)
   (refine CallP.pp (zgn hl [98, 105, 100, 100, 105, 110, 103] (q := q1) (i := i) (by first | omega | (simp <;> omega) | fail) g1) (by first | (simp [hi, hne, zzA, zaa, getK, zab, zac]; done) | fail) (by rfl) (by first | assumption | (simp; done) | fail) (by rfl) (by simp) (fun v2 q2 h2 => ?_) (fun pos e q' h2 => ⟨_, Wk.refl _, ?_⟩); rotate_left 1; (focus (rw [h2, PR.zdM] at hR; (refine hpan _ _ ⟨{ n := _, env := [], obs := [(i, pOb l q')], next := nx }, (Wk.cut rfl (by simp [hn]) (by simp [wkO, zaa, getK, zab, zac, Ob.under, D.under, zaj, zak, hi, hne, zzA, zab, zac, zaa, getK]) (by simp [wkU, zax, zaa, getK, D.under, hi, hne, zzA, zab, zac, zaa, getK]) (by simp [wkE, zax, zaa, getK, hi, hne, zzA, zab, zac, zaa, getK])), by simp [hn], ?_⟩; try simp); exact PPost.zbd hR.symm)); rw [h2, PR.bind_ok] at hR; (try simp [hi, hne, zzA]))
   obtain ⟨_, g2⟩ := zby hl _ h2 g1;have hh3 := fun nx' (h : nx <= nx') => zb3 l q2 [115, 101, 97, 108, 101, 100] i nx' (by omega) g2 hl.len;by_cases c3 : isB l q2 [115, 101, 97, 108, 101, 100] = true
   ·have g3 := zbR hl c3;rw [if_pos c3] at hR;simp only [c3, if_true] at hh3
    repeat' (first
  | (refine CallP.ok1 (hh3 _ (by first | omega | (simp <;> omega) | fail)) (by first | (simp [hne, del, zzA, zaa, getK, zab, zac]; done) | fail) (by rfl) (by first | assumption | (simp; done) | fail) (by rfl) (by simp) ?_; (try simp [hne, del, zzA]))
  | (refine zbp (by first | rfl | fail) (by first | simp [hne, del, zzA, frzN, frz1, zav, zau, St.frz, St.frzS, frzS, fv, za1, zbm, zbn, frzObS, zat, zan, del, frz, zbL] <;> rfl | fail) ?_)
  | fail)
    (refine CallP.pp (zgn hl [59] (q := q2 + 1) (i := i) (by first | omega | (simp <;> omega) | fail) g3) (by first | (simp [hi, hne, zzA, zaa, getK, zab, zac]; done) | fail) (by rfl) (by first | assumption | (simp; done) | fail) (by rfl) (by simp) (fun v3 q3 h3 => ?_) (fun pos e q' h3 => ⟨_, Wk.refl _, ?_⟩); rotate_left 1; (focus (rw [h3, PR.zdM] at hR; (refine hpan _ _ ⟨{ n := _, env := [], obs := [(i, pOb l q')], next := nx }, (Wk.cut rfl (by simp [hn]) (by simp [wkO, zaa, getK, zab, zac, Ob.under, D.under, zaj, zak, hi, hne, zzA, zab, zac, zaa, getK]) (by simp [wkU, zax, zaa, getK, D.under, hi, hne, zzA, zab, zac, zaa, getK]) (by simp [wkE, zax, zaa, getK, hi, hne, zzA, zab, zac, zaa, getK])), by simp [hn], ?_⟩; try simp); exact PPost.zbd hR.symm)); rw [h3, PR.bind_ok] at hR; (try simp [hi, hne, zzA]))
    repeat' (first
  | (refine zaf rfl ?_; simp [hne, del, zzA])
  | fail)
    (refine EndW.z ([(i, pOb l q3)]) (N := nx) Tryz.results84 (by simp [hne, hi] <;> omega) ?_; simp [hne, hi])
    exact PPost.zdv hR.symm rfl rfl
   ·rw [if_neg c3] at hR;simp only [c3, Bool.false_eq_true, if_false] at hh3
    repeat' (first
  | (refine CallP.ok1 (hh3 _ (by first | omega | (simp <;> omega) | fail)) (by first | (simp [hne, del, zzA, zaa, getK, zab, zac]; done) | fail) (by rfl) (by first | assumption | (simp; done) | fail) (by rfl) (by simp) ?_; (try simp [hne, del, zzA]))
  | (refine zbp (by first | rfl | fail) (by first | simp [hne, del, zzA, frzN, frz1, zav, zau, St.frz, St.frzS, frzS, fv, za1, zbm, zbn, frzObS, zat, zan, del, frz, zbL] <;> rfl | fail) ?_)
  | fail)
    (refine CallP.pp (zgn hl [59] (q := q2) (i := i) (by first | omega | (simp <;> omega) | fail) g2) (by first | (simp [hi, hne, zzA, zaa, getK, zab, zac]; done) | fail) (by rfl) (by first | assumption | (simp; done) | fail) (by rfl) (by simp) (fun v3 q3 h3 => ?_) (fun pos e q' h3 => ⟨_, Wk.refl _, ?_⟩); rotate_left 1; (focus (rw [h3, PR.zdM] at hR; (refine hpan _ _ ⟨{ n := _, env := [], obs := [(i, pOb l q')], next := nx }, (Wk.cut rfl (by simp [hn]) (by simp [wkO, zaa, getK, zab, zac, Ob.under, D.under, zaj, zak, hi, hne, zzA, zab, zac, zaa, getK]) (by simp [wkU, zax, zaa, getK, D.under, hi, hne, zzA, zab, zac, zaa, getK]) (by simp [wkE, zax, zaa, getK, hi, hne, zzA, zab, zac, zaa, getK])), by simp [hn], ?_⟩; try simp); exact PPost.zbd hR.symm)); rw [h3, PR.bind_ok] at hR; (try simp [hi, hne, zzA]))
    repeat' (first
  | (refine zaf rfl ?_; simp [hne, del, zzA])
  | fail)
    (refine EndW.z ([(i, pOb l q3)]) (N := nx) Tryz.results84 (by simp [hne, hi] <;> omega) ?_; simp [hne, hi])
    exact PPost.zdv hR.symm rfl rfl
theorem ztt {l : List Tok} (hl : TokOK l) {p q : Nat} {x : Int × Bool} (h : zm8 l p = .ok x q) (hp : p < l.length) : p <= q /\ q < l.length := by
 unfold zm8 at h;obtain ⟨_, r1, h1, h⟩ := PR.zaO h;have g1 := zby hl _ h1 hp;split at h
 ·rename_i hb;obtain ⟨_, r2, h2, h⟩ := PR.zaO h;have g2 := zby hl _ h2 (zbR hl hb);cases h;exact ⟨by omega, g2.2⟩
 ·split at h
  ·rename_i hb;obtain ⟨_, r2, h2, h⟩ := PR.zaO h;have g2 := zby hl _ h2 (zbR hl hb);cases h;exact ⟨by omega, g2.2⟩
  ·obtain ⟨_, r2, h2, h⟩ := PR.zaO h;have g2 := zby hl _ h2 g1.2;split at h
   ·rename_i hb;obtain ⟨_, r3, h3, h⟩ := PR.zaO h;have g3 := zby hl _ h3 (zbR hl hb);cases h;exact ⟨by omega, g3.2⟩
   ·obtain ⟨_, r3, h3, h⟩ := PR.zaO h;have g3 := zby hl _ h3 g2.2;cases h;exact ⟨by omega, g3.2⟩
theorem zoP : Fun Tryz.prog 118 [] (· = .u (.sl (ordersW.map fun w => [.str w]))) := by
 simp only [ordersW, zzC, zzD];refine Fun.runW Tryz.func118 Tryz.ntmps118 rfl (by simp) fun Γ hn => ?_
 repeat' (first
  | (refine zaf rfl ?_; simp [zbT, zbO])
  | fail)
 (refine EndW.frzN 1 ?_; simp [del])
 refine EndW.here ?_
 (refine EndOK.val (.inr rfl) ?_; simp [Tryz.results118])
def atW (l : List Tok) (q : Nat) (ws : List W8) : Option Nat := ws.findIdx? fun w => isB l q w
theorem zo9 (l : List Tok) (q : Nat) (ws : List W8) (i nx : Nat) (hi : i < nx) (hq : q < l.length) (hl : TokOK l) :
  RetX Tryz.prog 117 [.u (.sl (ws.map fun w => [.str w])), .bnd (.func 115) [.ptr i 0]] [(i, pOb l q)] nx
   (fun r o n => r = .val (match atW l q ws with | some j => zkD j | none => zkD (-1)) /\ o = [(i, pOb l (if (atW l q ws).isSome then q + 1 else q))] /\ n = nx) := by
 have hne := zbl hi;generalize hA : atW l q ws = A;refine RetX.runW Tryz.func117 Tryz.ntmps117 rfl (by simp) fun Γ hn hpan => ?_; simp only [zzE, zzC, zzD];refine zhK (x := 0) rfl fun hll => ?_;simp at hll
 repeat' (first
  | (refine zaf rfl ?_; simp)
  | fail)
 refine zbS (α := { j : Nat // j <= ws.length /\ ∀ w ∈ ws.take j, isB l q w = false }) [0, 1, 7] (fun x => [(8, .u (.int .i64 x.1))]) (fun x => [(i, pOb l q)]) nx (fun x => ws.length - x.1) ⟨0, by omega, by simp⟩ ?_ ?_
 ·exact (Wk.zdw (by simp [hn, hi] <;> grind))
 rintro ⟨j, h1, h2⟩;simp;rcases hx : ws[j]? with _ | w
 ·have hge : ws.length <= j := by simpa using hx
  rw [List.take_of_length_le hge] at h2;have hn0 : atW l q ws = none := by
   unfold atW;rw [List.findIdx?_eq_none_iff];exact h2
  rw [hn0] at hA;subst hA
  repeat' (first
  | (refine Cnd.of (fun hc => ?_) (fun hc => ?_) <;> (try (exfalso; omega)) <;> (try simp [hx]))
  | (refine zaf rfl ?_; simp [hx])
  | fail)
  (refine EndW.h Tryz.results117 ?_; simp)
 ·have hlt : j < ws.length := (List.getElem?_eq_some_iff.1 hx).1;have hh := zb3 l q w i nx hi hq hl.len;cases hb : isB l q w with
  | false =>
   rw [hb, if_neg (by simp)] at hh
   repeat' (first
  | (refine Cnd.of (fun hc => ?_) (fun hc => ?_) <;> (try (exfalso; omega)) <;> (try simp [hx]))
  | (refine zaf rfl ?_; simp [hx])
  | fail)
   refine CallP.bok hh (by simp [zaa, getK]) rfl (by first | assumption | simp) rfl (by simp) ?_
   (try simp [hx, zcZ, del])
   repeat' (first
  | (refine And.intro (by omega) ?_)
  | fail)
   refine LoopW.next ⟨j + 1, by omega, zbh hx h2 hb⟩ (by simp; omega) ?_
   exact (Wk.zdw (by simp [hn, hi, zab, zac, zaa, getK] <;> grind))
  | true =>
   rw [hb, if_pos rfl] at hh;have hn0 : atW l q ws = some j := by
    unfold atW;rw [List.findIdx?_eq_some_iff_getElem];obtain ⟨h3, h4⟩ := List.getElem?_eq_some_iff.1 hx;refine ⟨h3, by rw [h4]; exact hb, fun k hk => ?_⟩;have := h2 ws[k] (by rw [List.mem_take_iff_getElem]; exact ⟨k, by omega, rfl⟩);simp [this]
   rw [hn0] at hA;subst hA
   repeat' (first
  | (refine Cnd.of (fun hc => ?_) (fun hc => ?_) <;> (try (exfalso; omega)) <;> (try simp [hx]))
  | (refine zaf rfl ?_; simp [hx])
  | fail)
   refine CallP.bok hh (by simp [zaa, getK]) rfl (by first | assumption | simp) rfl (by simp) ?_
   (try simp [hx, zcZ, del])
   repeat' (first | fail)
   (refine EndW.h Tryz.results117 ?_; simp)
theorem zqF (l : List Tok) (p : Nat) (i nx : Nat) (hi : i < nx) (hp : p < l.length) (hl : TokOK l) :
  RetX Tryz.prog 88 [.ptr i 0] [(i, pOb l p)] nx (PPost l i nx zkD (zit l p)) := by
 have hne := zbl hi;have hll := hl.len;have hor := zoP;generalize hR : zit l p = R;rw [zit] at hR;have hh1 := fun nx' (h : nx <= nx') => zb3 l p [111, 114, 100, 101, 114] i nx' (by omega) hp hl.len;by_cases c1 : isB l p [111, 114, 100, 101, 114] = true
 ·have g1 := zbR hl c1;rw [if_pos c1] at hR;simp only [c1, if_true] at hh1;have hix := fun nx' (h : nx <= nx') => zo9 l (p + 1) ordersW i nx' (by omega) g1 hl;have hat : atW l (p + 1) ordersW = ordersW.findIdx? fun w => isB l (p + 1) w := rfl;rw [<- hat] at hR;obtain ⟨t, ht⟩ : ∃ t, l[p + 1]? = some t := ⟨_, List.getElem?_eq_getElem g1⟩;have hpa : zeo l (p + 1) = t.pos := by unfold zeo; rw [ht]
  rw [hpa] at hR;cases hj : atW l (p + 1) ordersW with
  | none =>
   have hc2 := fun e nx' (h : nx <= nx') => zex l (p + 1) t e i nx' (by omega) ht hl.len;rw [hj] at hR hix;simp only [Option.isSome_none, Bool.false_eq_true, if_false] at hR hix;refine RetX.runW Tryz.func88 Tryz.ntmps88 rfl (by simp) fun Γ hn hpan => ?_
   repeat' (first
  | (refine zaf rfl ?_; simp [hne, del, zzA])
  | (refine CallP.f2 rfl (hor) (by first | simp [hne, del, zzA] <;> rfl | fail) ?_; simp [hne, del, zzA])
  | (refine CallP.ok1 (hh1 _ (by first | omega | (simp <;> omega) | fail)) (by first | (simp [hne, del, zzA, zaa, getK, zab, zac]; done) | fail) (by rfl) (by first | assumption | (simp; done) | fail) (by rfl) (by simp) ?_; (try simp [hne, del, zzA]))
  | (refine CallP.ok1 (hix _ (by first | omega | (simp <;> omega) | fail)) (by first | (simp [hne, del, zzA, zaa, getK, zab, zac]; done) | fail) (by rfl) (by first | assumption | (simp; done) | fail) (by rfl) (by simp) ?_; (try simp [hne, del, zzA]))
  | (refine CallP.zgg (hc2 _ _ (by first | omega | (simp <;> omega) | fail)) (by first | (simp [hne, del, zzA, zaa, getK, zab, zac]; done) | fail) (by rfl) (by first | assumption | (simp; done) | fail) (by rfl) (by simp) ?_; rintro ob' ⟨q', rfl⟩; refine ⟨_, Wk.refl _, ?_⟩)
  | fail)
   (refine hpan _ _ (PanG.k ([(i, pOb l q')]) (nx) (by simp [hn, hi, hne, zab, zac, zaa, getK] <;> omega) ?_); try simp)
   exact PPost.zbd hR.symm
  | some j =>
   have g2 : p + 1 + 1 < l.length := by
    unfold atW at hj;rw [List.findIdx?_eq_some_iff_getElem] at hj;obtain ⟨_, hb, _⟩ := hj;exact zbR hl hb
   have hj0 : (0 : Int) <= (j : Int) := by omega
   have hc1 := fun e nx' (h : nx <= nx') => zf5 l (p + 1 + 1) e i nx' (by omega);rw [hj] at hR hix;simp only [Option.isSome_some, if_true] at hR hix;refine RetX.runW Tryz.func88 Tryz.ntmps88 rfl (by simp) fun Γ hn hpan => ?_
   repeat' (first
  | (refine zaf rfl ?_; simp [hne, del, zzA, hj0])
  | (refine CallP.f2 rfl (hor) (by first | simp [hne, del, zzA, hj0] <;> rfl | fail) ?_; simp [hne, del, zzA, hj0])
  | (refine CallP.ok1 (hh1 _ (by first | omega | (simp <;> omega) | fail)) (by first | (simp [hne, del, zzA, hj0, zaa, getK, zab, zac]; done) | fail) (by rfl) (by first | assumption | (simp; done) | fail) (by rfl) (by simp) ?_; (try simp [hne, del, zzA, hj0]))
  | (refine CallP.ok1 (hix _ (by first | omega | (simp <;> omega) | fail)) (by first | (simp [hne, del, zzA, hj0, zaa, getK, zab, zac]; done) | fail) (by rfl) (by first | assumption | (simp; done) | fail) (by rfl) (by simp) ?_; (try simp [hne, del, zzA, hj0]))
  | (refine CallP.ok1 (hc1 _ _ (by first | omega | (simp <;> omega) | fail)) (by first | (simp [hne, del, zzA, hj0, zaa, getK, zab, zac]; done) | fail) (by rfl) (by first | assumption | (simp; done) | fail) (by rfl) (by simp) ?_; (try simp [hne, del, zzA, hj0]))
  | (refine zbp (by first | rfl | fail) (by first | simp [hne, del, zzA, hj0, frzN, frz1, zav, zau, St.frz, St.frzS, frzS, fv, za1, zbm, zbn, frzObS, zat, zan, del, frz, zbL] <;> rfl | fail) ?_)
  | fail)
   (refine CallP.pp (zgn hl [59] (q := p + 1 + 1) (i := i) (by first | omega | (simp <;> omega) | fail) g2) (by first | (simp [hi, hne, zzA, zaa, getK, zab, zac]; done) | fail) (by rfl) (by first | assumption | (simp; done) | fail) (by rfl) (by simp) (fun v2 q2 h2 => ?_) (fun pos e q' h2 => ⟨_, Wk.refl _, ?_⟩); rotate_left 1; (focus (rw [h2, PR.zdM] at hR; (refine hpan _ _ ⟨{ n := _, env := [], obs := [(i, pOb l q')], next := nx }, (Wk.cut rfl (by simp [hn]) (by simp [wkO, zaa, getK, zab, zac, Ob.under, D.under, zaj, zak, hi, hne, zzA, zab, zac, zaa, getK]) (by simp [wkU, zax, zaa, getK, D.under, hi, hne, zzA, zab, zac, zaa, getK]) (by simp [wkE, zax, zaa, getK, hi, hne, zzA, zab, zac, zaa, getK])), by simp [hn], ?_⟩; try simp); exact PPost.zbd hR.symm)); rw [h2, PR.bind_ok] at hR; (try simp [hi, hne, zzA]))
   repeat' (first | fail)
   (refine EndW.z ([(i, pOb l q2)]) (N := nx) Tryz.results88 (by simp [hne, hi] <;> omega) ?_; simp [hne, hi])
   exact PPost.zdv hR.symm rfl rfl
 ·rw [if_neg c1] at hR;simp only [c1, Bool.false_eq_true, if_false] at hh1;refine RetX.runW Tryz.func88 Tryz.ntmps88 rfl (by simp) fun Γ hn hpan => ?_
  repeat' (first
  | (refine zaf rfl ?_; simp [hne, del, zzA])
  | (refine CallP.ok1 (hh1 _ (by first | omega | (simp <;> omega) | fail)) (by first | (simp [hne, del, zzA, zaa, getK, zab, zac]; done) | fail) (by rfl) (by first | assumption | (simp; done) | fail) (by rfl) (by simp) ?_; (try simp [hne, del, zzA]))
  | fail)
  (refine EndW.z ([(i, pOb l p)]) (N := nx) Tryz.results88 (by simp [hne, hi] <;> omega) ?_; simp [hne, hi])
  exact PPost.zdv hR.symm rfl rfl
theorem zqG {l : List Tok} (hl : TokOK l) {p q : Nat} {n : Int} (h : zit l p = .ok n q) (hp : p < l.length) : p <= q /\ q < l.length := by
 unfold zit at h;split at h
 ·split at h
  ·rename_i j hj;rw [List.findIdx?_eq_some_iff_getElem] at hj;obtain ⟨_, hb, _⟩ := hj;obtain ⟨_, r2, h2, h⟩ := PR.zaO h;have g2 := zby hl _ h2 (zbR hl hb);cases h;exact ⟨by omega, g2.2⟩
  ·cases h
 ·cases h; exact ⟨by omega, hp⟩
theorem zlj (x : Let) (s : W8) : Fun Tryz.prog 90 (ztq x :: [U.row [.str s] 0].map .u) (· = .u (.bool (decide (x.name = s)))) := by
 simp only [ztq, zzC, zzD];refine Fun.run Tryz.func90 Tryz.ntmps90 Tryz.results90 rfl (by simp) fun Γ hn => ?_
 repeat' (first
  | (refine zaf rfl ?_; simp)
  | fail)
 (refine Pst.of ?_; simp)
theorem zqe (lets : List Let) (s : W8) : Fun Tryz.prog 28 [.u (zaQ lets), .fnc (.func 90) [.u (.row [.str s] 0)]]
  (· = .u (.bool (lets.any fun x => decide (x.name = s)))) :=
 zfk lets 90 [U.row [.str s] 0] _ (fun x _ => zlj x s) (by simp) (fun _ => rfl) (fun _ => rfl)
end Go.Proofs.YtmlpcgkaonifcaaGreatDoor
namespace Go.Proofs.YtmlpcgkaonifcaaGreatDoor
open Go Go.VL
theorem zqW {l : List Tok} {p q : Nat} {w : W8} {x : Unit} (h : zm1 l p w = .ok x q) : q = p /\ isB l p w = true := by
 unfold zm1 at h;split at h
 ·cases h; exact ⟨rfl, by assumption⟩
 ·cases h
def zpQ (l : List Tok) (p : Nat) (b : Bool) (e : Int) : PR Unit := if b = true then .ok () p else .stop (zeo l p) e
theorem ziZ (l : List Tok) (p : Nat) (b : Bool) (e : Int) (i nx : Nat) (hi : i < nx) (hp : p < l.length) (hl : TokOK l) :
  RetX Tryz.prog 85 [.ptr i 0, .u (.bool b), .u (.int .i64 e)] [(i, pOb l p)] nx (PPost l i nx (fun _ => .tup []) (zpQ l p b e)) := by
 obtain ⟨t, ht⟩ : ∃ t, l[p]? = some t := ⟨_, List.getElem?_eq_getElem hp⟩;have hpa : zeo l p = t.pos := by unfold zeo; rw [ht]
 unfold zpQ;cases b with
 | true => exact zf5 l p e i nx hi
 | false => rw [if_neg (by simp), hpa]; exact zex l p t e i nx hi ht hl.len
theorem znU (l : List Tok) (p : Nat) (w : W8) (i nx : Nat) (hi : i < nx) (hp : p < l.length) (hl : TokOK l) :
  RetX Tryz.prog 85 [.ptr i 0, .u (.bool (isB l p w)), .u (.int .i64 12)] [(i, pOb l p)] nx (PPost l i nx (fun _ => .tup []) (zm1 l p w)) := ziZ l p (isB l p w) 12 i nx hi hp hl
theorem zrT {l : List Tok} {p q : Nat} {b : Bool} {e : Int} {x : Unit} (h : zpQ l p b e = .ok x q) : q = p /\ b = true := by
 unfold zpQ at h;split at h
 ·cases h; exact ⟨rfl, by assumption⟩
 ·cases h
theorem zvC {l : List Tok} {p : Nat} {t : Tok} (ht : l[p]? = some t) (i nx : Nat) (hi : i < nx) (hl : TokOK l) :
  RetX Tryz.prog 85 [.ptr i 0, .u (.bool (decide (t.kind = 0))), .u (.int .i64 12)] [(i, pOb l p)] nx (PPost l i nx (fun _ => .tup []) (zvD l p)) := by
 have h := ziZ l p (decide (t.kind = 0)) 12 i nx hi (List.getElem?_eq_some_iff.1 ht).1 hl;have e : zpQ l p (decide (t.kind = 0)) 12 = zvD l p := by
  unfold zpQ zvD zeo;rw [ht];simp
 rwa [e] at h
theorem zwE {l : List Tok} {p q : Nat} {x : Unit} (h : zvD l p = .ok x q) : q = p := by
 unfold zvD at h;split at h
 ·split at h
  ·cases h; rfl
  ·cases h
 ·cases h
theorem zo2 {l : List Tok} {f p : Nat} {acc : List Let} {t : Tok} (ht : l[p + 1]? = some t) : ziH l (f + 1) p acc = if isB l p [108, 101, 116] = true then
  (zpQ l p (decide ((acc.length : Int) < 20)) 6).bind fun _ _ => (zpQ l (p + 1) (decide (t.kind = 1) && zfe t.text) 12).bind fun _ _ =>
  (zpQ l (p + 1) (!(acc.any fun x => decide (x.name = t.text))) 5).bind fun _ _ => (zcV l (p + 2) [[61]]).bind fun _ q => (zfo l q).bind fun e r => ziH l f r (acc ++ [⟨t.text, e⟩])
  else .ok acc p := by
 have hpa : zeo l (p + 1) = t.pos := by unfold zeo; rw [ht]
 rw [ziH, ht];unfold zpQ;rw [hpa];by_cases h1 : isB l p [108, 101, 116] = true
 ·rw [if_pos h1, if_pos h1];by_cases h2 : acc.length < 20
  ·rw [if_pos h2, if_pos (by simp; omega), PR.bind_ok];simp only;by_cases h3 : t.kind = 1 /\ zfe t.text = true
   ·have e3 : (decide (t.kind = 1) && zfe t.text) = true := by simp [h3]
    rw [if_pos h3, e3];simp only [if_true, PR.bind_ok];by_cases h4 : (acc.any fun x => decide (x.name = t.text)) = true
    ·have e4 : (!acc.any fun x => decide (x.name = t.text)) = false := by rw [h4]; rfl
     rw [if_pos h4, e4];rfl
    ·have e4 : (!acc.any fun x => decide (x.name = t.text)) = true := by simpa using h4
     rw [if_neg h4, e4];rfl
   ·have e3 : (decide (t.kind = 1) && zfe t.text) = false := by simpa using h3
    rw [if_neg h3, e3];rfl
  ·have e2 : decide ((acc.length : Int) < 20) = false := by simp; omega
   rw [if_neg h2, e2];rfl
 ·rw [if_neg h1, if_neg h1]
theorem zrc {l : List Tok} {f p : Nat} {acc : List Let} (h : ¬ isB l p [108, 101, 116] = true) : ziH l (f + 1) p acc = .ok acc p := by rw [ziH, if_neg h]
theorem PR.ze5 {α β γ : Type} {r : PR α} {f : α -> Nat -> PR β} {g : β -> Nat -> PR γ} : (r.bind f).bind g = r.bind fun a p => (f a p).bind g := by cases r <;> rfl
def zhV (acc : List Let) : List (List U) := acc.map fun l => [.str l.name, .int .i64 l.body.op, .int .i64 l.body.n, .int .i64 l.body.unit, .str l.body.s, .sl (l.body.args.map Exp.row)]
theorem zrd (acc : List Let) : (zhV acc).length = acc.length := by simp [zhV]
theorem zo3 (acc : List Let) (s : W8) (e : Exp) : zhV (acc ++ [⟨s, e⟩]) = zhV acc ++ [[.str s, .int .i64 e.op, .int .i64 e.n, .int .i64 e.unit, .str e.s, .sl (e.args.map Exp.row)]] := by simp [zhV]
abbrev byD (b : By) : D := .u (.agg (zaE b))
theorem _root_.Go.VL.CallP.pq {P : Program} {Γ : Ctx} {s : St} {k : St -> Prop} {dst : Option Tmp} {fop : Operand} {args : List Operand} {f caps} {ds : List D} {α β : Type} {l : List Tok} {i N : Nat} {ob : Ob} {val : α -> D} {r : PR α} {g : α -> Nat -> PR β} {R : PR β}
  (hret : RetX P f ds [(i, ob)] s.next (PPost l i s.next val r)) (hj : getK s.obs i = some ob) (hf : zam (opd s fop) = some (f, caps)) (hc : zae P f = true) (hds : args.map (opd s) ++ caps = ds) (hp : zay dst s)
  (hR : r.bind g = R) (hst : ∀ (s1 : St) (q : Nat) (pos e : Int), getK s1.obs i = some (pOb l q) -> N <= s1.next -> R = .stop pos e -> Γ.pan (chP pos e) s1) (hN : N <= s.next)
  (hk : ∀ a q, r = .ok a q -> g a q = R -> k (({ s with obs := del s.obs i ++ [(i, pOb l q)], next := s.next } : St).put dst (val a))) : CallP P Γ fop args dst s k :=
 CallP.pp hret hj hf hc hds hp (fun a q h => hk a q h (by rw [h] at hR; exact hR)) (fun pos e q h => ⟨_, Wk.refl _, hst _ q pos e (by simp [zab, zac, zaa, getK]) hN (by rw [h] at hR; exact hR.symm)⟩)
end Go.Proofs.YtmlpcgkaonifcaaGreatDoor
namespace Go.Proofs.YtmlpcgkaonifcaaGreatDoor
open Go Go.VL
def zjs : By := ⟨0, 0, 0, 0, 0, 0, false, 0, 0, 0, 0, [], zic, zic, zic, zic, zic⟩
def zis (s : W8) : By × Int × Int := match zpP s with
 | .error (p, e) => (zjs, p, e)
 | .ok l => match zvU l with
  | .stop pos e => (zjs, pos, e)
  | .ok b _ => (b, 0, 0)
def zwT (r : By × Int × Int) : D := .tup [.u (.agg (zaE r.1)), .u (.int .i64 r.2.1), .u (.int .i64 r.2.2)]
abbrev zub : Ob := .box [.u (.int .i64 0), .u (.int .i64 0), .u (.int .i64 0), .u (.int .i64 0), .u (.int .i64 0), .u (.int .i64 0), .u (.bool false), .u (.int .i64 0), .u (.int .i64 0), .u (.int .i64 0), .u (.int .i64 0), .u .nil, .u (.int .i64 0), .u (.int .i64 0), .u (.int .i64 0), .u (.str []), .u .nil, .u (.int .i64 0), .u (.int .i64 0), .u (.int .i64 0), .u (.str []), .u .nil, .u (.int .i64 0), .u (.int .i64 0), .u (.int .i64 0), .u (.str []), .u .nil, .u (.int .i64 0), .u (.int .i64 0), .u (.int .i64 0), .u (.str []), .u .nil, .u (.int .i64 0), .u (.int .i64 0), .u (.int .i64 0), .u (.str []), .u .nil]
end Go.Proofs.YtmlpcgkaonifcaaGreatDoor
namespace Go.Proofs.YtmlpcgkaonifcaaGreatDoor
open Go Go.VL
mutual
def zwx : Exp -> Int
 | .mk _ _ _ _ args => zra args + 1
def zra : List Exp -> Int
 | [] => 0
 | e :: l => max (zwx e) (zra l)
end
theorem zji (l : List Int) (a : Int) (ha : 0 <= a) : l.foldl max a = max a (l.foldl max 0) := by
 induction l generalizing a with
 | nil => simp; omega
 | cons b l ih => simp only [List.foldl_cons]; rw [ih (max a b) (by omega), ih (max 0 b) (by omega)]; omega
mutual
theorem zrb : ∀ e : Exp, zwx e = e.lev
 | .mk op n u s args => by rw [zwx, Exp.zjb, zn1]; rfl
theorem zn1 : ∀ l : List Exp, zra l = (l.map Exp.lev).foldl max 0
 | [] => by rw [zra]; rfl
 | e :: l => by
  have := e.lev_pos;rw [zra, zrb, zn1, zzC, List.foldl_cons, zji (l.map Exp.lev) (max 0 e.lev) (by omega)];omega
end
def zyn (s : List UInt8) : Exp × Int × Int := match zpP s with
 | .error (p, e) => (zic, p, e)
 | .ok l => match zfu l (4 * l.length + 3) 0 0 with
  | .stop pos e => (zic, pos, e)
  | .ok y q => if zwA l q ≠ 0 then (zic, zeo l q, 12) else if 12 < zwx y then (zic, zeo l q, 6) else (y, 0, 0)
def zk1 (l : List Tok) (p : Nat) : PR Exp := (zfu l (4 * l.length + 3) p 0).bind fun e q =>
 if isB l q [59] = true then if zwx e <= 12 then .ok e (q + 1) else .stop (zeo l q) 6 else .stop (zeo l q) 12
def zti (l : List Tok) : Nat -> Nat -> List Let -> PR (List Let)
 | 0, _, _ => .stop 0 0
 | f + 1, p, acc => if isB l p [108, 101, 116] = true then
   if acc.length < 20 then match l[p + 1]? with
    | none => .stop 0 0
    | some t => if t.kind = 1 ∧ zfe t.text = true then
          if (acc.any fun x => decide (x.name = t.text)) = true then .stop t.pos 5
          else (zcV l (p + 2) [[61]]).bind fun _ q => (zk1 l q).bind fun e r => zti l f r (acc ++ [⟨t.text, e⟩])
     else .stop t.pos 12
   else .stop (zeo l p) 6
  else .ok acc p
def zhD (l : List Tok) (p : Nat) (word : W8) : PR Exp := if isB l p word = true then zk1 l (p + 1) else .ok nothingE p
def zx6 (l : List Tok) : PR By :=
 (zm8 l 0).bind fun k p => (zm1 l p [112, 101, 114, 105, 111, 100]).bind fun _ p => (zeT l p [112, 101, 114, 105, 111, 100] 1 1000 [[100, 97, 121, 115], [59]]).bind fun period p =>
 (zm1 l p [108, 97, 115, 116]).bind fun _ p => (zeT l p [108, 97, 115, 116] 1 1000 [[59]]).bind fun last p =>
 (zeT l p [103, 114, 97, 99, 101] 0 1000 [[100, 97, 121, 115], [59]]).bind fun grace p => (zeT l p [119, 97, 105, 116] 0 1000 [[100, 97, 121, 115], [59]]).bind fun wait p =>
 (zit l p).bind fun order p => (zeT l p [98, 97, 99, 107, 115] 0 60 [[59]]).bind fun backs p => (zeT l p [118, 111, 105, 99, 101, 115] 0 1000 [[112, 101, 114], [109, 105, 108, 108, 101], [59]]).bind fun voices p =>
 (zeT l p [106, 117, 114, 121] 0 60 [[59]]).bind fun jury p => (zeT l p [102, 117, 110, 100] 0 1000 [[112, 101, 114], [109, 105, 108, 108, 101], [59]]).bind fun fund p =>
 (zti l 21 p []).bind fun lets p => (zcV l p [[100, 117, 101]]).bind fun _ p => (zk1 l p).bind fun due p =>
 (zhD l p [102, 105, 110, 101]).bind fun fine p => (zhD l p [112, 97, 121]).bind fun pay p => (zhD l p [99, 111, 118, 101, 114]).bind fun cover p => (zhD l p [104, 111, 108, 100]).bind fun hold p =>
 (zvD l p).bind fun _ p => .ok ⟨k.1, period, grace, wait, last, order, k.2, backs, voices, jury, fund, lets, due, fine, pay, cover, hold⟩ p
theorem zie : zfo = zk1 := by
 funext l p;unfold zfo zk1;simp only [zrb]
theorem zn2 (l : List Tok) : ∀ f p acc, ziH l f p acc = zti l f p acc
 | 0, p, acc => rfl
 | f + 1, p, acc => by
  rw [ziH, zti, zie];simp only [zn2 l f]
  try rfl
theorem zpB : zeQ = zhD := by
 funext l p w;unfold zeQ zhD;rw [zie]
theorem zvT (l : List Tok) : zvU l = zx6 l := by
 unfold zvU zx6;rw [zie, zpB];simp only [zn2]
def zlz (s : W8) : By × Int × Int := match zpP s with
 | .error (p, e) => (zjs, p, e)
 | .ok l => match zx6 l with
  | .stop pos e => (zjs, pos, e)
  | .ok b _ => (b, 0, 0)
theorem zqC (s : W8) : zis s = zlz s := by
 unfold zis zlz;simp only [zvT]
 try rfl
end Go.Proofs.YtmlpcgkaonifcaaGreatDoor
namespace Go.Proofs.YtmlpcgkaonifcaaGreatDoor
open Go Go.VL
abbrev zxa : W8 := [99, 105, 114, 99, 108, 101, 32, 114, 111, 116, 97, 116, 105, 110, 103, 32, 59, 32, 112, 101, 114, 105, 111, 100, 32, 55, 32, 100, 97, 121, 115, 32, 59, 32, 108, 97, 115, 116, 32, 51, 32, 59, 32, 100, 117, 101, 32, 49, 48, 32, 99, 111, 105, 110, 115, 32, 59, 32, 112, 97, 121, 32, 112, 111, 116, 32, 59]
def bRot : By := (zlz zxa).1
def zcp (w b v h : Int) : By := { bRot with wait := w, backs := b, voices := v, hold := .mk bRot.hold.op h bRot.hold.unit bRot.hold.s bRot.hold.args }
theorem rv1 : zlz zxa = (bRot, 0, 0) := by kernel_rfl
theorem sv1 : (za5 (zcp 0 0 500 0) 4 [2]).2.2.1 = 30 /\ (za5 (zcp 0 0 500 0) 4 [2]).2.2.2 = 0 := ⟨by kernel_rfl, by kernel_rfl⟩
theorem sv2 : (za5 (zcp 0 1 1000 0) 4 [2]).2.2.1 = 30 /\ (za5 (zcp 0 1 1000 0) 4 [2]).2.2.2 = 0 := ⟨by kernel_rfl, by kernel_rfl⟩
theorem sv3 : (za5 (zcp 0 1 1000 0) 4 [0, 1]).2.2.1 = 60 /\ (za5 (zcp 0 1 1000 0) 4 [0, 1]).2.2.2 = 0 := ⟨by kernel_rfl, by kernel_rfl⟩
theorem sv4 : (za5 (zcp 8 0 500 0) 4 [2]).2.2.2 = 23 := by kernel_rfl
theorem sv5 : zet (zcp 0 0 500 25) 4 1 = (55, 0) := by kernel_rfl
theorem sv6 : (zpR (zcp 0 0 0 0)).length = 10 := by kernel_rfl
theorem sv7 : (zdV (zcp 0 0 500 0) 4 [1]).2 = 0 := by kernel_rfl
theorem sv8 : (za5 (zcp 0 0 500 0) 4 [2]).1.length = (zdV (zcp 0 0 500 0) 4 [1]).1.length := by kernel_rfl
theorem sv9 : (za5 (zcp 0 0 500 0) 4 [2]).2.1.length = (zdV (zcp 0 0 500 0) 4 [1]).1.length := by kernel_rfl
def zwq (vs : List Int) : Bool := vs.all fun v => decide (-4503599627370496 <= v) && decide (v <= 4503599627370496)
theorem sv0 : zwq (za5 (zcp 0 0 500 0) 4 [2]).1 = true := by kernel_rfl
theorem zyj : zjy (za5 (zcp 0 0 500 0) 4 [2]).1 := fun v hv => by
 have := List.all_eq_true.1 sv0 v hv;simpa using this
theorem zz5 : (if zg4 (zdV (zcp 0 0 500 0) 4 [1]).1 (za5 (zcp 0 0 500 0) 4 [2]).1 (za5 (zcp 0 0 500 0) 4 [2]).2.1 ≠ 0 \/ 30 < (za5 (zcp 0 0 500 0) 4 [2]).1.getD 0 0 then (21 : Int) else 0) = 0 := by kernel_rfl
theorem zz4 : (if zg4 (zdV (zcp 0 0 500 0) 4 [1]).1 (za5 (zcp 0 0 500 0) 4 [2]).1 (za5 (zcp 0 0 500 0) 4 [2]).2.1 ≠ 0 \/ 29 < (za5 (zcp 0 0 500 0) 4 [2]).1.getD 0 0 then (21 : Int) else 0) = 21 := by kernel_rfl
end Go.Proofs.YtmlpcgkaonifcaaGreatDoor
namespace Go.Proofs.YtmlpcgkaonifcaaGreatDoor
open Go Go.VL
attribute [local simp] HS zbw zc2 zcq evPure opd uOf zay St.put St.at getK binD binI binS binB nilD aggD zfJ zge lookD lookR zcn rangeS Go.VL.nextD Go.VL.nextS zcr zgk zgh zfs zcv mkV zbi zaT zaS zaR zc0 zaP zba zbs mapEff zdE zfp Key.kk shiftI arith unD convD zdu loadD cellsAt fieldAddrD fieldD indexAddrD indexSlD arrAddr indexD sliceD cutD lenD minmaxD nilCheckD buildD fillD zb0 zc7 zeD setAll zcW zef zck zfv zcj St.add zaw zbB rowsOf zdg zcw zad zac zaa zbz zda za3 entry zbO zbT valD zcm zcB zfw zdb zdc zb4 zbP zam zaW zbj delAll effD St.effS zcF zaU zaH zcG zaV zaJ zbY zaI zaA zbZ zcD zbv zbX za9 zbV zbW zar mkD zcl zbG zbK zam zcu D.ids Op.operands Call.operands zbH makeIfD makeFuncD typeAssertD zgd zdm zdn zf8 zco IntKind.bits zct zaz List.take_of_length_le List.range_succ
attribute [local irreducible] V G H HD HD2 HD4 zhd RetX zbf Eff CallP CallV EndOK Fun Ret FinOK LoopI LoopW EndW
theorem zpJ (l : List Tok) (hl0 : 0 < l.length) (hl : TokOK l) (hl2 : l.length <= 2001) :
  RetX Tryz.prog 65 [.ptr 3 0] [(3, pOb l 0)] 4 (PPost l 3 4 byD (zvU l)) := by
 have hi : 3 < 4 := by decide
 have hne := zbl hi;have hll := hl.len;have htE : True := trivial;generalize hR : zvU l = R;rw [zvU] at hR
 (refine RetX.of_bodyW Tryz.func65 rfl (by simp) fun Γ hn hpan => ?_); simp only [zzE, zzC, zzD, Tryz.ntmps65]
 have hst : ∀ (s1 : St) (q : Nat) (pos e : Int), getK s1.obs 3 = some (pOb l q) -> 4 <= s1.next -> R = .stop pos e -> Γ.pan (chP pos e) s1 := fun s1 q pos e hg hnx hRs => by
  (refine hpan _ _ ⟨{ n := _, env := [], obs := [(3, pOb l q)], next := 4 }, (Wk.cut rfl (by simp [hn]) (by simp [wkO, zaa, getK, zab, zac, Ob.under, D.under, zaj, zak, hg, hnx]) (by simp [wkU, zax, zaa, getK, D.under, hg, hnx]) (by simp [wkE, zax, zaa, getK, hg, hnx])), by simp [hn], ?_⟩; try simp)
  exact PPost.zbd hRs
 repeat' (first
  | (refine zbu ?_; simp [hne])
  | (refine zcz ?_; simp [hne])
  | (refine zbJ ?_; simp [hne])
  | fail)
 (refine CallP.pq (ztr l 0 3 _ (by first | omega | (simp <;> omega) | fail) hl0 hl) (by first | (simp [hi, hne, del, htE, zaa, getK, zab, zac]; done) | fail) (by rfl) (by first | assumption | (simp; done) | fail) (by rfl) (by simp) hR hst (by simp) fun kb q1 h1 hR2 => ?_; replace hR := hR2; clear hR2; (try simp [hi, hne, del, htE]))
 obtain ⟨_, g1⟩ := ztt hl h1 hl0;have hm := zfr l q1 [112, 101, 114, 105, 111, 100] g1 hl.len
 repeat' (first
  | (refine zbu ?_; simp [hne, del])
  | (refine zcz ?_; simp [hne, del])
  | (refine zbJ ?_; simp [hne, del])
  | (refine CallP.fun_ (hm) (by first | rfl | fail) (by first | assumption | (simp; done) | fail) (by first | (simp [hne, del]; done) | (simp [hne, del]; rfl) | fail) (by first | (simp; done) | fail) (fun d hd => ?_); subst hd; (try simp [hne, del]))
  | fail)
 (refine CallP.pq (znU l q1 [112, 101, 114, 105, 111, 100] 3 _ (by first | omega | (simp <;> omega) | fail) g1 hl) (by first | (simp [hi, hne, del, htE, zaa, getK, zab, zac]; done) | fail) (by rfl) (by first | assumption | (simp; done) | fail) (by rfl) (by simp) hR hst (by simp) fun u2 q2 h2 hR2 => ?_; replace hR := hR2; clear hR2; (try simp [hi, hne, del, htE]))
 obtain ⟨rfl, _⟩ := zqW h2
 repeat' (first
  | (refine zbu ?_; simp [hne, del])
  | (refine zcz ?_; simp [hne, del])
  | (refine zbJ ?_; simp [hne, del])
  | (refine zcY (by first | rfl | fail) ?_; simp [hne, del, frzN, frz1, zav, zau, St.frz, St.frzS, frzS, fv, za1, zbm, zbn, frzObS, zat, zan, del, frz, zbL])
  | fail)
 (refine CallP.pq (zeI l q2 [112, 101, 114, 105, 111, 100] 1 1000 [[100, 97, 121, 115], [59]] 3 _ (by first | omega | (simp <;> omega) | fail) g1 hl (by simp)) (by first | (simp [hi, hne, del, htE, zaa, getK, zab, zac]; done) | fail) (by rfl) (by first | assumption | (simp; done) | fail) (by rfl) (by simp) hR hst (by simp) fun period q3 h3 hR2 => ?_; replace hR := hR2; clear hR2; (try simp [hi, hne, del, htE]))
 obtain ⟨_, g3⟩ := zeJ hl h3 g1
 repeat' (first
  | (refine zbu ?_; simp [hne, del])
  | (refine zcz ?_; simp [hne, del])
  | (refine zbJ ?_; simp [hne, del])
  | fail)
 have hm := zfr l q3 [108, 97, 115, 116] g3 hl.len
 repeat' (first
  | (refine zbu ?_; simp [hne, del])
  | (refine CallP.fun_ (hm) (by first | rfl | fail) (by first | assumption | (simp; done) | fail) (by first | (simp [hne, del]; done) | (simp [hne, del]; rfl) | fail) (by first | (simp; done) | fail) (fun d hd => ?_); subst hd; (try simp [hne, del]))
  | fail)
 (refine CallP.pq (znU l q3 [108, 97, 115, 116] 3 _ (by first | omega | (simp <;> omega) | fail) g3 hl) (by first | (simp [hi, hne, del, htE, zaa, getK, zab, zac]; done) | fail) (by rfl) (by first | assumption | (simp; done) | fail) (by rfl) (by simp) hR hst (by simp) fun u4 q4 h4 hR2 => ?_; replace hR := hR2; clear hR2; (try simp [hi, hne, del, htE]))
 obtain ⟨rfl, _⟩ := zqW h4
 repeat' (first
  | (refine zbu ?_; simp [hne, del])
  | (refine zcz ?_; simp [hne, del])
  | (refine zbJ ?_; simp [hne, del])
  | (refine zcY (by first | rfl | fail) ?_; simp [hne, del, frzN, frz1, zav, zau, St.frz, St.frzS, frzS, fv, za1, zbm, zbn, frzObS, zat, zan, del, frz, zbL])
  | fail)
 (refine CallP.pq (zeI l q4 [108, 97, 115, 116] 1 1000 [[59]] 3 _ (by first | omega | (simp <;> omega) | fail) g3 hl (by simp)) (by first | (simp [hi, hne, del, htE, zaa, getK, zab, zac]; done) | fail) (by rfl) (by first | assumption | (simp; done) | fail) (by rfl) (by simp) hR hst (by simp) fun last q5 h5 hR2 => ?_; replace hR := hR2; clear hR2; (try simp [hi, hne, del, htE]))
 obtain ⟨_, g5⟩ := zeJ hl h5 g3
 repeat' (first
  | (refine zbu ?_; simp [hne, del])
  | (refine zcz ?_; simp [hne, del])
  | (refine zbJ ?_; simp [hne, del])
  | (refine zcY (by first | rfl | fail) ?_; simp [hne, del, frzN, frz1, zav, zau, St.frz, St.frzS, frzS, fv, za1, zbm, zbn, frzObS, zat, zan, del, frz, zbL])
  | fail)
 (refine CallP.pq (zeI l q5 [103, 114, 97, 99, 101] 0 1000 [[100, 97, 121, 115], [59]] 3 _ (by first | omega | (simp <;> omega) | fail) g5 hl (by simp)) (by first | (simp [hi, hne, del, htE, zaa, getK, zab, zac]; done) | fail) (by rfl) (by first | assumption | (simp; done) | fail) (by rfl) (by simp) hR hst (by simp) fun grace q6 h6 hR2 => ?_; replace hR := hR2; clear hR2; (try simp [hi, hne, del, htE]))
 obtain ⟨_, g6⟩ := zeJ hl h6 g5
 repeat' (first
  | (refine zbu ?_; simp [hne, del])
  | (refine zcz ?_; simp [hne, del])
  | (refine zbJ ?_; simp [hne, del])
  | (refine zcY (by first | rfl | fail) ?_; simp [hne, del, frzN, frz1, zav, zau, St.frz, St.frzS, frzS, fv, za1, zbm, zbn, frzObS, zat, zan, del, frz, zbL])
  | fail)
 (refine CallP.pq (zeI l q6 [119, 97, 105, 116] 0 1000 [[100, 97, 121, 115], [59]] 3 _ (by first | omega | (simp <;> omega) | fail) g6 hl (by simp)) (by first | (simp [hi, hne, del, htE, zaa, getK, zab, zac]; done) | fail) (by rfl) (by first | assumption | (simp; done) | fail) (by rfl) (by simp) hR hst (by simp) fun wait q7 h7 hR2 => ?_; replace hR := hR2; clear hR2; (try simp [hi, hne, del, htE]))
 obtain ⟨_, g7⟩ := zeJ hl h7 g6
 repeat' (first
  | (refine zbu ?_; simp [hne, del])
  | (refine zcz ?_; simp [hne, del])
  | (refine zbJ ?_; simp [hne, del])
  | fail)
 (refine CallP.pq (zqF l q7 3 _ (by first | omega | (simp <;> omega) | fail) g7 hl) (by first | (simp [hi, hne, del, htE, zaa, getK, zab, zac]; done) | fail) (by rfl) (by first | assumption | (simp; done) | fail) (by rfl) (by simp) hR hst (by simp) fun order q8 h8 hR2 => ?_; replace hR := hR2; clear hR2; (try simp [hi, hne, del, htE]))
 obtain ⟨_, g8⟩ := zqG hl h8 g7
 repeat' (first
  | (refine zbu ?_; simp [hne, del])
  | (refine zcz ?_; simp [hne, del])
  | (refine zbJ ?_; simp [hne, del])
  | (refine zcY (by first | rfl | fail) ?_; simp [hne, del, frzN, frz1, zav, zau, St.frz, St.frzS, frzS, fv, za1, zbm, zbn, frzObS, zat, zan, del, frz, zbL])
  | fail)
 (refine CallP.pq (zeI l q8 [98, 97, 99, 107, 115] 0 60 [[59]] 3 _ (by first | omega | (simp <;> omega) | fail) g8 hl (by simp)) (by first | (simp [hi, hne, del, htE, zaa, getK, zab, zac]; done) | fail) (by rfl) (by first | assumption | (simp; done) | fail) (by rfl) (by simp) hR hst (by simp) fun backs q9 h9 hR2 => ?_; replace hR := hR2; clear hR2; (try simp [hi, hne, del, htE]))
 obtain ⟨_, g9⟩ := zeJ hl h9 g8
 repeat' (first
  | (refine zbu ?_; simp [hne, del])
  | (refine zcz ?_; simp [hne, del])
  | (refine zbJ ?_; simp [hne, del])
  | (refine zcY (by first | rfl | fail) ?_; simp [hne, del, frzN, frz1, zav, zau, St.frz, St.frzS, frzS, fv, za1, zbm, zbn, frzObS, zat, zan, del, frz, zbL])
  | fail)
 (refine CallP.pq (zeI l q9 [118, 111, 105, 99, 101, 115] 0 1000 [[112, 101, 114], [109, 105, 108, 108, 101], [59]] 3 _ (by first | omega | (simp <;> omega) | fail) g9 hl (by simp)) (by first | (simp [hi, hne, del, htE, zaa, getK, zab, zac]; done) | fail) (by rfl) (by first | assumption | (simp; done) | fail) (by rfl) (by simp) hR hst (by simp) fun voices q10 h10 hR2 => ?_; replace hR := hR2; clear hR2; (try simp [hi, hne, del, htE]))
 obtain ⟨_, g10⟩ := zeJ hl h10 g9
 repeat' (first
  | (refine zbu ?_; simp [hne, del])
  | (refine zcz ?_; simp [hne, del])
  | (refine zbJ ?_; simp [hne, del])
  | (refine zcY (by first | rfl | fail) ?_; simp [hne, del, frzN, frz1, zav, zau, St.frz, St.frzS, frzS, fv, za1, zbm, zbn, frzObS, zat, zan, del, frz, zbL])
  | fail)
 (refine CallP.pq (zeI l q10 [106, 117, 114, 121] 0 60 [[59]] 3 _ (by first | omega | (simp <;> omega) | fail) g10 hl (by simp)) (by first | (simp [hi, hne, del, htE, zaa, getK, zab, zac]; done) | fail) (by rfl) (by first | assumption | (simp; done) | fail) (by rfl) (by simp) hR hst (by simp) fun jury q11 h11 hR2 => ?_; replace hR := hR2; clear hR2; (try simp [hi, hne, del, htE]))
 obtain ⟨_, g11⟩ := zeJ hl h11 g10
 repeat' (first
  | (refine zbu ?_; simp [hne, del])
  | (refine zcz ?_; simp [hne, del])
  | (refine zbJ ?_; simp [hne, del])
  | (refine zcY (by first | rfl | fail) ?_; simp [hne, del, frzN, frz1, zav, zau, St.frz, St.frzS, frzS, fv, za1, zbm, zbn, frzObS, zat, zan, del, frz, zbL])
  | fail)
 (refine CallP.pq (zeI l q11 [102, 117, 110, 100] 0 1000 [[112, 101, 114], [109, 105, 108, 108, 101], [59]] 3 _ (by first | omega | (simp <;> omega) | fail) g11 hl (by simp)) (by first | (simp [hi, hne, del, htE, zaa, getK, zab, zac]; done) | fail) (by rfl) (by first | assumption | (simp; done) | fail) (by rfl) (by simp) hR hst (by simp) fun fund q12 h12 hR2 => ?_; replace hR := hR2; clear hR2; (try simp [hi, hne, del, htE]))
 obtain ⟨_, g12⟩ := zeJ hl h12 g11
 repeat' (first
  | (refine zbu ?_; simp [hne, del])
  | (refine zcz ?_; simp [hne, del])
  | (refine zbJ ?_; simp [hne, del])
  | fail)
 refine zkX _ (Wk.ownC 5 _ 11 69 6 (by decide) rfl rfl) ?_;simp [St.ownC];refine zbS (α := { x : Nat × List Let × Nat // x.1 < l.length /\ x.2.1.length + x.2.2 = 21 /\ x.2.1.length <= 20 /\ ziH l 21 q12 [] = ziH l x.2.2 x.1 x.2.1 }) [0, 2, 3] (fun x => [])
  (fun x => [(5, .box [.u (.int .i64 kb.1), .u (.int .i64 period), .u (.int .i64 grace), .u (.int .i64 wait), .u (.int .i64 last), .u (.int .i64 order), .u (.bool kb.2), .u (.int .i64 backs), .u (.int .i64 voices), .u (.int .i64 jury), .u (.int .i64 fund), .vec 14 x.1.2.1.length, .u (.int .i64 0), .u (.int .i64 0), .u (.int .i64 0), .u (.str []), .u .nil, .u (.int .i64 0), .u (.int .i64 0), .u (.int .i64 0), .u (.str []), .u .nil, .u (.int .i64 0), .u (.int .i64 0), .u (.int .i64 0), .u (.str []), .u .nil, .u (.int .i64 0), .u (.int .i64 0), .u (.int .i64 0), .u (.str []), .u .nil, .u (.int .i64 0), .u (.int .i64 0), .u (.int .i64 0), .u (.str []), .u .nil]), (14, .vec 69 6 (rowsD (zhV x.1.2.1))), (4, .box [.u (.int .i64 0), .u (.int .i64 0), .u (.int .i64 0), .u (.int .i64 0), .u (.int .i64 0), .u (.int .i64 0), .u (.bool false), .u (.int .i64 0), .u (.int .i64 0), .u (.int .i64 0), .u (.int .i64 0), .u .nil, .u (.int .i64 0), .u (.int .i64 0), .u (.int .i64 0), .u (.str []), .u .nil, .u (.int .i64 0), .u (.int .i64 0), .u (.int .i64 0), .u (.str []), .u .nil, .u (.int .i64 0), .u (.int .i64 0), .u (.int .i64 0), .u (.str []), .u .nil, .u (.int .i64 0), .u (.int .i64 0), .u (.int .i64 0), .u (.str []), .u .nil, .u (.int .i64 0), .u (.int .i64 0), .u (.int .i64 0), .u (.str []), .u .nil]), (3, pOb l x.1.1)]) 15 (fun x => x.1.2.2) ⟨(q12, [], 21), g12, rfl, by simp, rfl⟩ ?_ ?_
 ·exact (Wk.cut rfl (by simp [hn, St.lp]) (by simp [wkO, St.lp, zaa, getK, Ob.under, D.under, zaj, zak, zhV]) (by simp [wkU, St.lp, zax, zaa, getK, D.under, zhV]) (by simp [wkE, St.lp, zax, zaa, getK, zhV] <;> (try (intros; simp_all; done)) <;> (try (intros; omega)) <;> (try grind)))
 rintro ⟨⟨q, acc, g⟩, gq, hg, hg2, hS⟩;simp only at gq hg hg2 hS;simp [St.lp, St.only, zax, zaa, getK];have hm := zfr l q [108, 101, 116] gq hl.len;have hAl := zrd acc;have hsn := zo3 acc;generalize hA : zhV acc = A at *;have htk : A.take acc.length = A := List.take_of_length_le (by omega);obtain ⟨g, rfl⟩ : ∃ g', g = g' + 1 := ⟨g - 1, by omega⟩;by_cases hb : isB l q [108, 101, 116] = true
 ·have g1q := zbR hl hb;obtain ⟨t, ht⟩ : ∃ t, l[q + 1]? = some t := ⟨_, List.getElem?_eq_getElem g1q⟩;have hnx := zdi l (q + 1) t ht hl.len;rw [zo2 ht, if_pos hb] at hS;rw [hS, PR.ze5] at hR;rw [hb] at hm
  repeat' (first
  | (refine zbu ?_; simp [hne, del, hAl])
  | (refine zcz ?_; simp [hne, del, hAl])
  | (refine zbJ ?_; simp [hne, del, hAl])
  | (refine zdZ ?_; simp [hne, del, hAl])
  | (refine zeL ?_; simp [hne, del, hAl])
  | (refine zec ?_; simp only [zbf])
  | (refine CallP.fun_ (hm) (by first | rfl | fail) (by first | assumption | (simp; done) | fail) (by first | (simp [hne, del, hAl]; done) | (simp [hne, del, hAl]; rfl) | fail) (by first | (simp; done) | fail) (fun d hd => ?_); subst hd; (try simp [hne, del, hAl]))
  | fail)
  (refine CallP.pq (ziZ l q (decide ((acc.length : Int) < 20)) 6 3 _ (by first | omega | (simp <;> omega) | fail) gq hl) (by first | (simp [hi, hne, del, zaa, getK, zab, zac]; done) | fail) (by rfl) (by first | assumption | (simp; done) | fail) (by rfl) (by simp) hR hst (by simp) fun u20 q20 h20 hR2 => ?_; replace hR := hR2; clear hR2; (try simp [hi, hne, del]))
  obtain ⟨rfl, hlt⟩ := zrT h20;rw [h20, PR.bind_ok] at hS;rw [PR.ze5] at hR;by_cases hw : t.kind = 1
  case neg =>
   have hc2 := fun e nx' (h : 15 <= nx') => zex l (q20 + 1) t e 3 nx' (by omega) ht hl.len;have e3 : zpQ l (q20 + 1) (decide (t.kind = 1) && zfe t.text) 12 = .stop t.pos 12 := by
    unfold zpQ zeo; rw [ht]; simp [hw]
   rw [e3, PR.zdM] at hR
   repeat' (first
  | (refine zbu ?_; simp [hne, del, hw])
  | (refine zcz ?_; simp [hne, del, hw])
  | (refine ⟨by omega, ?_⟩)
  | (refine zbJ ?_; simp [hne, del, hw])
  | (refine CallP.fun_ (hnx) (by first | rfl | fail) (by first | assumption | (simp; done) | fail) (by first | (simp [hne, del, hw]; done) | (simp [hne, del, hw]; rfl) | fail) (by first | (simp; done) | fail) (fun d hd => ?_); subst hd; (try simp [hne, del, hw]))
  | (refine CallP.zgg (hc2 _ _ (by first | omega | (simp <;> omega) | fail)) (by first | (simp [hne, del, hw, zaa, getK, zab, zac]; done) | fail) (by rfl) (by first | assumption | (simp; done) | fail) (by rfl) (by simp) ?_; rintro ob' ⟨q', rfl⟩; refine ⟨_, Wk.refl _, ?_⟩)
  | fail)
   (refine hpan _ _ ⟨{ n := _, env := [], obs := [(3, pOb l q')], next := 4 }, (Wk.cut rfl (by simp [hn]) (by simp [wkO, zaa, getK, zab, zac, Ob.under, D.under, zaj, zak, hi, hne, zab, zac, zaa, getK]) (by simp [wkU, zax, zaa, getK, D.under, hi, hne, zab, zac, zaa, getK]) (by simp [wkE, zax, zaa, getK, hi, hne, zab, zac, zaa, getK])), by simp [hn], ?_⟩; try simp)
   exact PPost.zbd hR.symm
  have hnm := zh5 t.text;have e3 : (decide (t.kind = 1) && zfe t.text) = zfe t.text := by simp [hw]
  rw [e3] at hR hS;generalize zfe t.text = nb at hnm hR hS
  repeat' (first
  | (refine zbu ?_; simp [hne, del, hw])
  | (refine zcz ?_; simp [hne, del, hw])
  | (refine ⟨by omega, ?_⟩)
  | (refine zbJ ?_; simp [hne, del, hw])
  | (refine CallP.fun_ (hnx) (by first | rfl | fail) (by first | assumption | (simp; done) | fail) (by first | (simp [hne, del, hw]; done) | (simp [hne, del, hw]; rfl) | fail) (by first | (simp; done) | fail) (fun d hd => ?_); subst hd; (try simp [hne, del, hw]))
  | (refine CallP.fun_ (hnm) (by first | rfl | fail) (by first | assumption | (simp; done) | fail) (by first | (simp [hne, del, hw]; done) | (simp [hne, del, hw]; rfl) | fail) (by first | (simp; done) | fail) (fun d hd => ?_); subst hd; (try simp [hne, del, hw]))
  | fail)
  (refine CallP.pq (ziZ l (q20 + 1) nb 12 3 _ (by first | omega | (simp <;> omega) | fail) g1q hl) (by first | (simp [hi, hne, del, zaa, getK, zab, zac]; done) | fail) (by rfl) (by first | assumption | (simp; done) | fail) (by rfl) (by simp) hR hst (by simp) fun u21 q21 h21 hR2 => ?_; replace hR := hR2; clear hR2; (try simp [hi, hne, del]))
  obtain ⟨rfl, hnb⟩ := zrT h21;rw [h21, PR.bind_ok] at hS;rw [PR.ze5] at hR;have htw := zqe acc t.text;have htw : Fun Tryz.prog 28 [.u (.sl (zhV acc)), .fnc (.func 90) [.u (.row [.str t.text] 0)]] (· = .u (.bool (acc.any fun x => decide (x.name = t.text)))) := htw;rw [hA] at htw;generalize (acc.any fun x => decide (x.name = t.text)) = tb at htw hR hS
  repeat' (first
  | (refine zbu ?_; simp [hne, del, hw, htk, hAl])
  | (refine zcz ?_; simp [hne, del, hw, htk, hAl])
  | (refine zbJ ?_; simp [hne, del, hw, htk, hAl])
  | (refine CallP.fun_ (htw) (by first | rfl | fail) (by first | assumption | (simp; done) | fail) (by first | (simp [hne, del, hw, htk, hAl]; done) | (simp [hne, del, hw, htk, hAl]; rfl) | fail) (by first | (simp; done) | fail) (fun d hd => ?_); subst hd; (try simp [hne, del, hw, htk, hAl]))
  | fail)
  (refine CallP.pq (ziZ l (q20 + 1) (!tb) 5 3 _ (by first | omega | (simp <;> omega) | fail) g1q hl) (by first | (simp [hi, hne, del, zaa, getK, zab, zac]; done) | fail) (by rfl) (by first | assumption | (simp; done) | fail) (by rfl) (by simp) hR hst (by simp) fun u22 q22 h22 hR2 => ?_; replace hR := hR2; clear hR2; (try simp [hi, hne, del]))
  obtain ⟨rfl, htb⟩ := zrT h22;rw [h22, PR.bind_ok] at hS;rw [PR.ze5] at hR;have g2q := hl.fin (q20 + 1) t ht (by omega)
  repeat' (first
  | (refine zbu ?_; simp [hne, del])
  | (refine zcz ?_; simp [hne, del])
  | (refine ⟨by omega, ?_⟩)
  | (refine zbJ ?_; simp [hne, del])
  | (refine zcY (by first | rfl | fail) ?_; simp [hne, del, frzN, frz1, zav, zau, St.frz, St.frzS, frzS, fv, za1, zbm, zbn, frzObS, zat, zan, del, frz, zbL])
  | fail)
  (refine CallP.pq (zgn hl [61] (q := q20 + 1 + 1) (i := 3) (by first | omega | (simp <;> omega) | fail) g2q) (by first | (simp [hi, hne, del, zaa, getK, zab, zac]; done) | fail) (by rfl) (by first | assumption | (simp; done) | fail) (by rfl) (by simp) hR hst (by simp) fun u23 q23 h23 hR2 => ?_; replace hR := hR2; clear hR2; (try simp [hi, hne, del]))
  obtain ⟨_, g23⟩ := zby hl _ h23 g2q;rw [h23, PR.bind_ok] at hS;rw [PR.ze5] at hR;have hwh := fun nx' (h : 15 <= nx') => zid l q23 3 nx' (by omega) g23 hl hl2;cases hr : zfo l q23 with
  | stop pos e =>
   rw [hr, PR.zdM] at hR;simp only [hr] at hwh
   repeat' (first
  | (refine zg8 (fun nx' h' => hwh nx' (by simp at h'; omega)) (by first | (simp [hne, del, htk, hAl, zaa, getK, zab, zac, zad, zar]; done) | fail) (by rfl) (by first | assumption | simp) (by rfl) (by simp) ?_ ?_; rintro env' ob' n' hn' ⟨q', rfl⟩; refine ⟨_, Wk.refl _, ?_⟩)
  | (refine zfQ rfl (by simp) ?_; simp)
  | (refine zbQ rfl ?_; simp [hne, del, htk, hAl])
  | (refine zcz ?_; simp [hne, del, htk, hAl])
  | (refine zeg (hC _ (by kernel_rfl)) rfl; done)
  | (refine zeR rfl (by kernel_rfl) (by first | (simp [hn] <;> omega) | fail) fun C k hC hk => ?_; simp [hne, del, htk, hAl])
  | fail)
   (refine hpan _ _ ⟨{ n := _, env := [], obs := [(3, pOb l q')], next := 4 }, (Wk.cut rfl (by simp [hn]) (by simp [wkO, zaa, getK, zab, zac, Ob.under, D.under, zaj, zak, hi, hne, zab, zac, zaa, getK]) (by simp [wkU, zax, zaa, getK, D.under, hi, hne, zab, zac, zaa, getK]) (by simp [wkE, zax, zaa, getK, hi, hne, zab, zac, zaa, getK])), by simp [hn], ?_⟩; try simp)
   exact PPost.zbd hR.symm
  | ok e r =>
   have hwh := fun nx' h => zeu (hwh nx' h) hr;obtain ⟨_, g24⟩ := zif hl hr g23;rw [hr, PR.bind_ok] at hS
   repeat' (first
  | (refine zi9 (fun nx' h' => hwh nx' (by simp at h'; omega)) (by first | (simp [hne, del, htk, hAl, zaa, getK, zab, zac, zad, zar]; done) | fail) (by rfl) (by first | assumption | simp) (by rfl) (by simp [D.under, Ob.under]) (by simp) ?_; (try simp [hne, del, htk, hAl]))
  | (refine zbQ rfl ?_; simp [hne, del, htk, hAl])
  | (refine zja rfl ?_; simp [hne, del, htk, hAl])
  | (refine zcz ?_; simp [hne, del, htk, hAl])
  | (refine ⟨by omega, ?_⟩)
  | (refine zfn (hC _ (by kernel_rfl)) (hk _ ?_); clear hC hk C k; simp only [zbf])
  | (refine zeR rfl (by kernel_rfl) (by first | (simp [hn] <;> omega) | fail) fun C k hC hk => ?_; simp [hne, del, htk, hAl])
  | fail)
   have hlt' : acc.length < 20 := by have := of_decide_eq_true hlt; omega
   refine LoopW.next ⟨(r, acc ++ [⟨t.text, e⟩], g), g24, (by simp; omega), (by simp; omega), hS⟩ (by simp) ?_
   exact (Wk.ren ((fun j => if j = 14 then 18 else j)) rfl (by first | (simp [hn]; done) | (intro i hi; rw [hn] at hi; constructor <;> (try simp) <;> (try (intro _)) <;> omega)) (by simp [zhQ, St.lp, zax, zaa, getK, zac, zad, D.under, D.le, D.ren, hsn, htk] <;> (try (intros; simp_all; done)) <;> (try omega)) (by simp [wkR, St.lp, zaa, getK, zac, zad, obR, leU, zch, za2, Ob.under, D.under, D.le, D.ren, hsn, htk] <;> (try (intros; simp_all; done)) <;> (try omega)) (by simp [hsn, htk]))
 ·rw [zrc hb] at hS;rw [hS, PR.bind_ok] at hR;have hb2 : isB l q [108, 101, 116] = false := by simpa using hb
  rw [hb2] at hm
  repeat' (first
  | (refine zbu ?_; simp [hne, del])
  | (refine zcz ?_; simp [hne, del])
  | (refine zbJ ?_; simp [hne, del])
  | (refine zdZ ?_; simp [hne, del])
  | (refine zfP ?_; simp [zbf])
  | (refine CallP.fun_ (hm) (by first | rfl | fail) (by first | assumption | (simp; done) | fail) (by first | (simp [hne, del]; done) | (simp [hne, del]; rfl) | fail) (by first | (simp; done) | fail) (fun d hd => ?_); subst hd; (try simp [hne, del]))
  | (refine zcY (by first | rfl | fail) ?_; simp [hne, del, frzN, frz1, zav, zau, St.frz, St.frzS, frzS, fv, za1, zbm, zbn, frzObS, zat, zan, del, frz, zbL])
  | fail)
  (refine CallP.pq (zgn hl [100, 117, 101] (q := q) (i := 3) (by first | omega | (simp <;> omega) | fail) gq) (by first | (simp [hi, hne, del, zaa, getK, zab, zac]; done) | fail) (by rfl) (by first | assumption | (simp; done) | fail) (by rfl) (by simp) hR hst (by simp) fun u30 q30 h30 hR2 => ?_; replace hR := hR2; clear hR2; (try simp [hi, hne, del]))
  obtain ⟨_, g30⟩ := zby hl _ h30 gq
  repeat' (first
  | (refine zbu ?_; simp [hne, del])
  | (refine zcz ?_; simp [hne, del])
  | (refine zbJ ?_; simp [hne, del])
  | fail)
  (refine CallP.pq (zid l q30 3 _ (by first | omega | (simp <;> omega) | fail) g30 hl hl2) (by first | (simp [hi, hne, del, ziU, Exp.row_eq, zaa, getK, zab, zac]; done) | fail) (by rfl) (by first | assumption | (simp; done) | fail) (by rfl) (by simp) hR hst (by simp) fun due q31 h31 hR2 => ?_; replace hR := hR2; clear hR2; (try simp [hi, hne, del, ziU, Exp.row_eq]))
  obtain ⟨_, g31⟩ := zif hl h31 g30
  repeat' (first
  | (refine zbu ?_; simp [hne, del])
  | (refine zcz ?_; simp [hne, del])
  | (refine zbJ ?_; simp [hne, del])
  | fail)
  (refine CallP.pq (zf3 l q31 [102, 105, 110, 101] 3 _ (by first | omega | (simp <;> omega) | fail) g31 hl hl2) (by first | (simp [hi, hne, del, ziU, Exp.row_eq, zaa, getK, zab, zac]; done) | fail) (by rfl) (by first | assumption | (simp; done) | fail) (by rfl) (by simp) hR hst (by simp) fun fine q32 h32 hR2 => ?_; replace hR := hR2; clear hR2; (try simp [hi, hne, del, ziU, Exp.row_eq]))
  obtain ⟨_, g32⟩ := zf4 hl h32 g31
  repeat' (first
  | (refine zbu ?_; simp [hne, del])
  | fail)
  (refine CallP.pq (zf3 l q32 [112, 97, 121] 3 _ (by first | omega | (simp <;> omega) | fail) g32 hl hl2) (by first | (simp [hi, hne, del, ziU, Exp.row_eq, zaa, getK, zab, zac]; done) | fail) (by rfl) (by first | assumption | (simp; done) | fail) (by rfl) (by simp) hR hst (by simp) fun pay q33 h33 hR2 => ?_; replace hR := hR2; clear hR2; (try simp [hi, hne, del, ziU, Exp.row_eq]))
  obtain ⟨_, g33⟩ := zf4 hl h33 g32
  repeat' (first
  | (refine zbu ?_; simp [hne, del])
  | fail)
  (refine CallP.pq (zf3 l q33 [99, 111, 118, 101, 114] 3 _ (by first | omega | (simp <;> omega) | fail) g33 hl hl2) (by first | (simp [hi, hne, del, ziU, Exp.row_eq, zaa, getK, zab, zac]; done) | fail) (by rfl) (by first | assumption | (simp; done) | fail) (by rfl) (by simp) hR hst (by simp) fun cover q34 h34 hR2 => ?_; replace hR := hR2; clear hR2; (try simp [hi, hne, del, ziU, Exp.row_eq]))
  obtain ⟨_, g34⟩ := zf4 hl h34 g33
  repeat' (first
  | (refine zbu ?_; simp [hne, del])
  | fail)
  (refine CallP.pq (zf3 l q34 [104, 111, 108, 100] 3 _ (by first | omega | (simp <;> omega) | fail) g34 hl hl2) (by first | (simp [hi, hne, del, ziU, Exp.row_eq, zaa, getK, zab, zac]; done) | fail) (by rfl) (by first | assumption | (simp; done) | fail) (by rfl) (by simp) hR hst (by simp) fun hold q35 h35 hR2 => ?_; replace hR := hR2; clear hR2; (try simp [hi, hne, del, ziU, Exp.row_eq]))
  obtain ⟨_, g35⟩ := zf4 hl h35 g34;obtain ⟨t, ht⟩ : ∃ t, l[q35]? = some t := ⟨_, List.getElem?_eq_getElem g35⟩;have hnx := zdi l q35 t ht hl.len
  repeat' (first
  | (refine zbu ?_; simp [hne, del])
  | (refine zcz ?_; simp [hne, del])
  | (refine zbJ ?_; simp [hne, del])
  | (refine CallP.fun_ (hnx) (by first | rfl | fail) (by first | assumption | (simp; done) | fail) (by first | (simp [hne, del]; done) | (simp [hne, del]; rfl) | fail) (by first | (simp; done) | fail) (fun d hd => ?_); subst hd; (try simp [hne, del]))
  | fail)
  (refine CallP.pq (zvC ht 3 _ (by first | omega | (simp <;> omega) | fail) hl) (by first | (simp [hi, hne, del, zaa, getK, zab, zac]; done) | fail) (by rfl) (by first | assumption | (simp; done) | fail) (by rfl) (by simp) hR hst (by simp) fun u36 q36 h36 hR2 => ?_; replace hR := hR2; clear hR2; (try simp [hi, hne, del]))
  obtain rfl := zwE h36
  repeat' (first
  | (refine zbu ?_; simp [hne, del])
  | (refine zcz ?_; simp [hne, del])
  | (refine zbJ ?_; simp [hne, del])
  | (refine zjq ?_; simp only [zbf])
  | fail)
  (refine EndW.frzN 1 ?_; simp [frzN, frz1, zav, zau, St.frz, St.frzS, frzS, fv, za1, zbm, zbn, frzObS, zat, zan, del, frz, zbL, hAl, htk])
  refine EndW.norm ?_;simp [St.norm, za7, zbN, zb5, zcc, hne]
  (refine EndW.here ?_; (first | (refine EndOK.fin (.inr rfl) ?_) | (refine EndOK.fin (.inl rfl) ?_)); simp [zea, zaC, Tryz.results65, hne, hi]; refine FinOK.cut [(3, pOb l q36)] (4) (by simp [zaa, getK, zab, zac, Ob.under, D.under, zaj, zak, hne, hi] <;> omega) (by simp [D.under]) (by simp [hn]) ?_; try simp)
  exact PPost.zdv hR.symm (by simp [zaE, <- hA, zhV]) rfl
end Go.Proofs.YtmlpcgkaonifcaaGreatDoor
namespace Go.Proofs.YtmlpcgkaonifcaaGreatDoor
open Go Go.VL
attribute [local simp] HS zbw zc2 zcq evPure opd uOf zay St.put St.at getK binD binI binS binB nilD aggD zfJ zge lookD lookR zcn rangeS Go.VL.nextD Go.VL.nextS zcr zgk zgh zfs zcv mkV zbi zaT zaS zaR zc0 zaP zba zbs mapEff zdE zfp Key.kk shiftI arith unD convD zdu loadD cellsAt fieldAddrD fieldD indexAddrD indexSlD arrAddr indexD sliceD cutD lenD minmaxD nilCheckD buildD fillD zb0 zc7 zeD setAll zcW zef zck zfv zcj St.add zaw zbB rowsOf zdg zcw zad zac zaa zbz zda za3 entry zbO zbT valD zcm zcB zfw zdb zdc zb4 zbP zam zaW zbj delAll effD St.effS zcF zaU zaH zcG zaV zaJ zbY zaI zaA zbZ zcD zbv zbX za9 zbV zbW zar mkD zcl zbG zbK zam zcu D.ids Op.operands Call.operands zbH makeIfD makeFuncD typeAssertD zgd zdm zdn zf8 zco IntKind.bits zct zaz List.take_of_length_le List.range_succ zcO zcf zcP zcK zbD zb6 zb8 zcL zca zbe zb9 zb7 zhc zce zcM zaZ zaL zcN za0 zaN zcd zaM zaF zcS zcT zha zab frzN frz1 zav zau St.frz St.frzS frzS fv za1 zbm zbn frzObS zat zan frz zbL zbq zbr zbN zb5 zcc za7 St.norm St.lp St.only zax wkE wkO wkU Ob.under D.under zaj zak zcQ zcg zcR h4s zea zaC zbC List.zipIdx_cons List.zipIdx_nil zzC zzD Nat.zero_add
attribute [local irreducible] V G H HD HD2 HD4 zhd RetX zbf Eff CallP CallV EndOK Fun Ret FinOK LoopI LoopW EndW HR vs2 RN Cnd H4
theorem zuh (i j q nx : Nat) (hi : i < nx) (hj : j < nx) (hq : q < nx) (hij : i ≠ j) (hiq : i ≠ q) (hjq : j ≠ q) (p e : Int) (cells : List U) :
  RetDf Tryz.prog 63 [.ptr i 0, .ptr j 0, .ptr q 0] [(i, .box [.u (.int .i64 p)]), (j, .box [.u (.int .i64 e)]), (q, .box (cells.map .u))] nx .returning
   (fun u o n => settle u = .returning /\ n = nx /\ o = [(i, .box [.u (.int .i64 p)]), (j, .box [.u (.int .i64 e)]), (q, .box (cells.map .u))]) := by
 have hne := zbl hi;have hne2 := zbl hj;have hne3 := zbl hq;have hc0 := znp i j nx hi hj hij p e;refine RetDf.of_body Tryz.func63 rfl (by simp) (by simp) rfl fun Γ hn => ?_;simp [entry, zmP, Tryz.ntmps63];refine CallP.x2 hc0 (by simp [getK]) (by simp [getK, hij, Ne.symm hij]) hij rfl rfl (by simp) (by simp) (fun d o1 nx' hnx h => ?_) (fun ch o1 nx' hnx h => by cases h.1);obtain ⟨h1, rfl, h4⟩ := h;have h4 := h4.symm;subst h4;cases h1;simp [del, hij, Ne.symm hij, hiq, hjq, Ne.symm hiq, Ne.symm hjq]
 repeat' (first
  | (refine zaf rfl ?_; simp [hij, hiq, hjq])
  | fail)
 (refine ⟨by simp, { n := _, env := [], obs := [(i, .box [.u (.int .i64 p)]), (j, .box [.u (.int .i64 e)]), (q, .box (cells.map .u))], next := nx }, (Wk.cut rfl (by simp [hn]) (by simp [wkO, zaa, getK, zab, zac, Ob.under, D.under, zaj, zak, hi, hj, hq, hne, hne2, hne3, hij, hiq, hjq, Ne.symm hij, Ne.symm hiq, Ne.symm hjq]) (by simp [wkU, zax, zaa, getK, D.under, hi, hj, hq, hne, hne2, hne3, hij, hiq, hjq, Ne.symm hij, Ne.symm hiq, Ne.symm hjq]) (by simp [wkE, zax, zaa, getK, hi, hj, hq, hne, hne2, hne3, hij, hiq, hjq, Ne.symm hij, Ne.symm hiq, Ne.symm hjq])), by simp [hn], ?_⟩; try simp)
 all_goals rfl
theorem zui (i j q nx : Nat) (hi : i < nx) (hj : j < nx) (hq : q < nx) (hij : i ≠ j) (hiq : i ≠ q) (hjq : j ≠ q) (p e pos err : Int) :
  RetDf Tryz.prog 63 [.ptr i 0, .ptr j 0, .ptr q 0] [(i, .box [.u (.int .i64 p)]), (j, .box [.u (.int .i64 e)]), (q, zub)] nx (.panicking (chP pos err))
   (fun u o n => settle u = .returning /\ n = nx /\ o = [(i, .box [.u (.int .i64 pos)]), (j, .box [.u (.int .i64 err)]), (q, zub)]) := by
 have hne := zbl hi;have hne2 := zbl hj;have hne3 := zbl hq;have hc0 := zno i j nx hi hj hij p e pos err;refine RetDf.of_body Tryz.func63 rfl (by simp) (by simp) rfl fun Γ hn => ?_;simp [entry, zmP, chP, Tryz.ntmps63];refine CallP.x2 hc0 (by simp [getK]) (by simp [getK, hij, Ne.symm hij]) hij rfl rfl (by simp) (by simp) (fun d o1 nx' hnx h => ?_) (fun ch o1 nx' hnx h => by cases h.1);obtain ⟨h1, rfl, h4⟩ := h;have h4 := h4.symm;subst h4;cases h1;simp [del, hij, Ne.symm hij, hiq, hjq, Ne.symm hiq, Ne.symm hjq]
 repeat' (first
  | (refine zaf rfl ?_; simp [hij, hiq, hjq])
  | fail)
 (refine ⟨by simp, { n := _, env := [], obs := [(i, .box [.u (.int .i64 pos)]), (j, .box [.u (.int .i64 err)]), (q, zub)], next := nx }, (Wk.cut rfl (by simp [hn]) (by simp [wkO, zaa, getK, zab, zac, Ob.under, D.under, zaj, zak, hi, hj, hq, hne, hne2, hne3, hij, hiq, hjq, Ne.symm hij, Ne.symm hiq, Ne.symm hjq]) (by simp [wkU, zax, zaa, getK, D.under, hi, hj, hq, hne, hne2, hne3, hij, hiq, hjq, Ne.symm hij, Ne.symm hiq, Ne.symm hjq]) (by simp [wkE, zax, zaa, getK, hi, hj, hq, hne, hne2, hne3, hij, hiq, hjq, Ne.symm hij, Ne.symm hiq, Ne.symm hjq])), by simp [hn], ?_⟩; try simp)
 all_goals rfl
theorem zqz (s : W8) : RetX Tryz.prog 39 [.u (.str s)] [] 0 (fun r o n => r = .val (zwT (zis s))) := by
 skip
 unfold zis;cases hlx : zpP s with
 | error pe =>
  obtain ⟨p, e⟩ := pe;have ho := fun nx => zs7 s p e nx hlx;have he := (zth hlx).1;simp only
  (refine RetX.zf7 Tryz.func39 rfl (by simp) fun Γ hn hdfr hpan hesc => ?_); simp only [zzE, zzC, zzD, Tryz.ntmps39]
  repeat' (first
  | (refine zgl rfl ?_; simp [he])
  | (refine ⟨hC _ (by kernel_rfl), hk _ (zdH 0 _ _ _ ?_)⟩; clear hC hk C k; simp [he])
  | (refine zdx rfl (by kernel_rfl) (by first | (simp [hn] <;> omega) | fail) fun C k hC hk => ?_; simp [he])
  | (refine CallP.okL (ho _) (by first | (simp [he, zaa, getK, zab, zac, zad, zar, del]; done) | fail) (by rfl) (by first | assumption | (simp; done) | fail) (by rfl) (by simp) ?_; (try simp [he, zcZ, del]))
  | fail)
  refine EndW.norm ?_;simp [St.norm, za7, zbN, zb5, zcc]
  (refine EndW.h Tryz.results39 ?_; simp)
  simp [zwT, zaE, zjs, zic, Exp.op, Exp.n, Exp.unit, Exp.s, Exp.args]
 | ok l =>
  obtain ⟨hl, hl2, hl0⟩ := zvk hlx;have ho := fun nx => zu9 s l nx hlx;have hE := zpJ l hl0 hl hl2;simp only;cases hr : zvU l with
  | stop pos e =>
   simp only [hr] at hE ⊢
   (refine RetX.zf7 Tryz.func39 rfl (by simp) fun Γ hn hdfr hpan hesc => ?_); simp only [zzE, zzC, zzD, Tryz.ntmps39]
   rw [zfX]
   repeat' (first
  | (refine zgl rfl ?_; simp)
  | (refine CallP.okL (ho _) (by first | (simp [zaa, getK, zab, zac, zad, zar, del]; done) | fail) (by rfl) (by first | assumption | (simp; done) | fail) (by rfl) (by simp) ?_; (try simp [zcZ, del]))
  | fail)
   refine zkT hesc hdfr rfl (by simp) ?_;have hn0 := hn;have hpan0 := hpan;intro Γ' hn hpan;simp
   repeat' (first
  | (refine zgl rfl ?_; simp)
  | (refine CallP.zgg (hE) (by first | (simp [zaa, getK, zab, zac]; done) | fail) (by rfl) (by first | assumption | (simp; done) | fail) (by rfl) (by simp) ?_; rintro ob' ⟨q', rfl⟩; refine ⟨_, Wk.refl _, ?_⟩)
  | fail)
   refine hpan _ _ ?_;refine LeaveD.of [(1, .box [.u (.int .i64 0)]), (2, .box [.u (.int .i64 0)]), (0, zub)] (by simp [zaa, getK, zab, zac]) (zui 1 2 0 _ (by simp) (by simp) (by simp) (by decide) (by decide) (by decide) 0 0 _ _) ?_;simp only [show Γ.base.n0 = 0 from hn0];simp [zcZ, del];refine EndW.norm ?_;simp [St.norm, za7, zbN, zb5, zcc]
   (refine EndW.h Tryz.results39 ?_; simp)
   simp [zwT, zaE, zjs, zic, Exp.op, Exp.n, Exp.unit, Exp.s, Exp.args]
  | ok b q =>
   have hEx : RetX Tryz.prog 65 [.ptr 3 0] [(3, pOb l 0)] 4 (fun r o n => r = .val (.u (.agg (zaE b))) /\ o = [(3, pOb l q)] /\ n = 4) := by
    rw [hr] at hE;exact hE
   unfold zaE at hEx
   (refine RetX.zf7 Tryz.func39 rfl (by simp) fun Γ hn hdfr hpan hesc => ?_); simp only [zzE, zzC, zzD, Tryz.ntmps39]
   rw [zfX]
   repeat' (first
  | (refine zgl rfl ?_; simp)
  | (refine CallP.okL (ho _) (by first | (simp [zaa, getK, zab, zac, zad, zar, del]; done) | fail) (by rfl) (by first | assumption | (simp; done) | fail) (by rfl) (by simp) ?_; (try simp [zcZ, del]))
  | fail)
   refine zkT hesc hdfr rfl (by simp) ?_;have hn0 := hn;have hpan0 := hpan;intro Γ' hn hpan;simp
   repeat' (first
  | (refine zgl rfl ?_; simp [del])
  | (refine CallP.ok1 (hEx) (by first | (simp [del, zaa, getK, zab, zac]; done) | fail) (by rfl) (by first | assumption | (simp; done) | fail) (by rfl) (by simp) ?_; (try simp [del]))
  | fail)
   refine ⟨rfl, ?_⟩;refine LeaveD.of [(1, .box [.u (.int .i64 0)]), (2, .box [.u (.int .i64 0)]), (0, .box ((zaE b).map .u))] (by simp [zaa, getK, zab, zac, zaE]) (zuh 1 2 0 _ (by simp) (by simp) (by simp) (by decide) (by decide) (by decide) 0 0 _) ?_;simp only [show Γ.base.n0 = 0 from hn0];simp [zcZ, del, zaE]
   (refine EndW.h Tryz.results39 ?_; simp)
   simp [zwT, zaE]
theorem zqA (s : W8) : Fun Tryz.prog 39 [.u (.str s)] (· = .tup [byD (zis s).1, .u (.int .i64 (zis s).2.1), .u (.int .i64 (zis s).2.2)]) := by
 unfold Fun;exact (zqz s).ret (fun d o n h => by
  cases h;exact ⟨by simp [zwT, zbC], rfl⟩) (fun ch o n h => by cases h)
theorem zrF (b : By) (c : List Int) : Fun Tryz.prog 6 [.u (.agg (zaE b)), .u (ints c)] (· = .u (.bool (zrG b c))) := by
 have e0 := znd b.lets 2 12 (by omega) (by omega) (by omega) (by omega);have e1 := zei b.due 12 (by omega) (by omega);have e2 := zei b.fine 12 (by omega) (by omega);have e3 := zei b.pay 12 (by omega) (by omega);have e4 := zei b.cover 12 (by omega) (by omega);have e5 := zei b.hold 12 (by omega) (by omega);simp only [zdo, zaQ] at e0 e1 e2 e3 e4 e5;unfold zrG;generalize zxh b.lets 2 12 = x0 at e0 ⊢;generalize zmA b.due 12 = x1 at e1 ⊢;generalize zmA b.fine 12 = x2 at e2 ⊢;generalize zmA b.pay 12 = x3 at e3 ⊢;generalize zmA b.cover 12 = x4 at e4 ⊢;generalize zmA b.hold 12 = x5 at e5 ⊢;simp only [zaE, ints];refine Fun.runW Tryz.func6 Tryz.ntmps6 rfl (by simp) fun Γ hn => ?_
 repeat' (first
  | (refine Cnd.of (fun hc => ?_) (fun hc => ?_) <;> (try (exfalso; omega)) <;> (try simp))
  | (refine zaf rfl ?_; simp)
  | ((first | refine CallP.f2 rfl (e0) (by first | simp <;> rfl | fail) ?_ | refine CallP.f2 rfl (e1) (by first | simp <;> rfl | fail) ?_ | refine CallP.f2 rfl (e2) (by first | simp <;> rfl | fail) ?_ | refine CallP.f2 rfl (e3) (by first | simp <;> rfl | fail) ?_ | refine CallP.f2 rfl (e4) (by first | simp <;> rfl | fail) ?_ | refine CallP.f2 rfl (e5) (by first | simp <;> rfl | fail) ?_ | fail); simp)
  | fail)
 all_goals
  refine EndW.norm (EndW.here ?_)
  (refine EndOK.val (.inr rfl) ?_; simp [Tryz.results6])
 all_goals (clear e0 e1 e2 e3 e4 e5; first | (simp_all; done) | (simp_all; omega))
theorem ze1 (w b v h : Int) : Fun Tryz.prog 14 [.u (.int .i64 w), .u (.int .i64 b), .u (.int .i64 v), .u (.int .i64 h)] (· = .u (.agg (zaE (zcp w b v h)))) := by
 have h1 := zqA zxa;rw [zqC, show zlz zxa = (bRot, 0, 0) from rv1] at h1;simp only [byD, zaE, zcp, Exp.op, Exp.n, Exp.unit, Exp.s, Exp.args] at h1 ⊢;generalize bRot = B at *;refine Fun.runW Tryz.func14 Tryz.ntmps14 rfl (by simp) fun Γ hn => ?_
 repeat' (first
  | (refine zaf rfl ?_; simp)
  | (refine CallP.f2 rfl (h1) (by first | simp <;> rfl | fail) ?_; simp)
  | fail)
 refine EndW.norm (EndW.here ?_)
 (refine EndOK.val (.inr rfl) ?_; simp [Tryz.results14])
theorem zmK : Fun Tryz.prog 5 [] (· = .u (.bool true)) := by
 have l1 := ze1 0 0 500 0;have l2 := ze1 0 1 1000 0;have l3 := ze1 0 0 500 25;have l4 := ze1 8 0 500 0;have l5 := ze1 0 0 0 0;have p1 := zem (zcp 0 0 500 0) 4 [2] (by decide);have p2 := zem (zcp 0 1 1000 0) 4 [2] (by decide);have p3 := zem (zcp 0 1 1000 0) 4 [0, 1] (by decide);have p4 := ziT (zcp 0 0 500 25) 4 1;have p5 := zem (zcp 8 0 500 0) 4 [2] (by decide);have c1 := zi0 (zcp 0 0 500 0) 4 [1] (za5 (zcp 0 0 500 0) 4 [2]).1 (za5 (zcp 0 0 500 0) 4 [2]).2.1 30 (by decide) sv7 sv8 sv9 zyj;have c2 := zi0 (zcp 0 0 500 0) 4 [1] (za5 (zcp 0 0 500 0) 4 [2]).1 (za5 (zcp 0 0 500 0) 4 [2]).2.1 29 (by decide) sv7 sv8 sv9 zyj;have k1 := zsc (zcp 0 0 0 0);have k2 := sv6;rw [zz5] at c1;rw [zz4] at c2;rw [sv2.1, sv2.2] at p2;rw [sv3.1, sv3.2] at p3;rw [sv5] at p4;rw [sv4] at p5;rw [sv1.1, sv1.2] at p1;generalize (za5 (zcp 0 0 500 0) 4 [2]).1 = V1 at *;generalize (za5 (zcp 0 0 500 0) 4 [2]).2.1 = C1 at *;generalize (za5 (zcp 0 1 1000 0) 4 [2]).1 = V2 at *;generalize (za5 (zcp 0 1 1000 0) 4 [2]).2.1 = C2 at *;generalize (za5 (zcp 0 1 1000 0) 4 [0, 1]).1 = V3 at *;generalize (za5 (zcp 0 1 1000 0) 4 [0, 1]).2.1 = C3 at *;generalize (za5 (zcp 8 0 500 0) 4 [2]).1 = V4 at *;generalize (za5 (zcp 8 0 500 0) 4 [2]).2.1 = C4 at *;generalize (za5 (zcp 8 0 500 0) 4 [2]).2.2.1 = B4 at *;generalize zpR (zcp 0 0 0 0) = K at *;generalize zaE (zcp 0 0 500 0) = B1 at *;generalize zaE (zcp 0 1 1000 0) = B2 at *;generalize zaE (zcp 0 0 500 25) = B3 at *;generalize zaE (zcp 8 0 500 0) = B8 at *;generalize zaE (zcp 0 0 0 0) = B5 at *;simp only [ints, Df.consU, zzC, zzD] at *;refine Fun.runW Tryz.func5 Tryz.ntmps5 rfl (by simp) fun Γ hn => ?_
 repeat' (first
  | (refine zgl rfl ?_; simp [k2])
  | (refine ⟨hC _ (by kernel_rfl), hk _ (zdH 8 _ _ _ ?_)⟩; clear hC hk C k; simp [k2])
  | (refine zdx rfl (by kernel_rfl) (by first | (simp [hn] <;> omega) | fail) fun C k hC hk => ?_; simp [k2])
  | (refine zcA rfl ?_; simp [k2])
  | (refine zdf rfl ?_; simp [k2])
  | ((first | refine CallP.f2 rfl (l1) (by first | simp [k2] <;> rfl | fail) ?_ | refine CallP.f2 rfl (l2) (by first | simp [k2] <;> rfl | fail) ?_ | refine CallP.f2 rfl (l3) (by first | simp [k2] <;> rfl | fail) ?_ | refine CallP.f2 rfl (l4) (by first | simp [k2] <;> rfl | fail) ?_ | refine CallP.f2 rfl (l5) (by first | simp [k2] <;> rfl | fail) ?_ | refine CallP.f2 rfl (p1) (by first | simp [k2] <;> rfl | fail) ?_ | refine CallP.f2 rfl (p2) (by first | simp [k2] <;> rfl | fail) ?_ | refine CallP.f2 rfl (p3) (by first | simp [k2] <;> rfl | fail) ?_ | refine CallP.f2 rfl (p4) (by first | simp [k2] <;> rfl | fail) ?_ | refine CallP.f2 rfl (p5) (by first | simp [k2] <;> rfl | fail) ?_ | refine CallP.f2 rfl (c1) (by first | simp [k2] <;> rfl | fail) ?_ | refine CallP.f2 rfl (c2) (by first | simp [k2] <;> rfl | fail) ?_ | refine CallP.f2 rfl (k1) (by first | simp [k2] <;> rfl | fail) ?_ | fail); simp [k2])
  | ((first | refine CallV.f2 rfl (l1) (by first | simp [k2] <;> rfl | fail) ?_ | refine CallV.f2 rfl (l2) (by first | simp [k2] <;> rfl | fail) ?_ | refine CallV.f2 rfl (l3) (by first | simp [k2] <;> rfl | fail) ?_ | refine CallV.f2 rfl (l4) (by first | simp [k2] <;> rfl | fail) ?_ | refine CallV.f2 rfl (l5) (by first | simp [k2] <;> rfl | fail) ?_ | refine CallV.f2 rfl (p1) (by first | simp [k2] <;> rfl | fail) ?_ | refine CallV.f2 rfl (p2) (by first | simp [k2] <;> rfl | fail) ?_ | refine CallV.f2 rfl (p3) (by first | simp [k2] <;> rfl | fail) ?_ | refine CallV.f2 rfl (p4) (by first | simp [k2] <;> rfl | fail) ?_ | refine CallV.f2 rfl (p5) (by first | simp [k2] <;> rfl | fail) ?_ | refine CallV.f2 rfl (c1) (by first | simp [k2] <;> rfl | fail) ?_ | refine CallV.f2 rfl (c2) (by first | simp [k2] <;> rfl | fail) ?_ | refine CallV.f2 rfl (k1) (by first | simp [k2] <;> rfl | fail) ?_ | fail); simp [k2])
  | fail)
 refine EndW.norm (EndW.here ?_)
 (refine EndOK.val (.inr rfl) ?_; simp [Tryz.results5])
theorem zmo (b : By) (c : List UInt8) (vars : List Var) : Fun Tryz.prog 9 [.u (.agg (zaE b)), .u (.str c), .u (zdS vars)] (· = .tup [.u (.int .i64 (zmG b c vars).1), .u (.bool (decide ((zmG b c vars).2 = 0)))]) := by
 have h1 := zj5 b c vars;unfold zmG;generalize zew b c vars = R at *;obtain ⟨r, e⟩ := R;simp only [zdS, zaE] at h1 ⊢;refine Fun.runW Tryz.func9 Tryz.ntmps9 rfl (by simp) fun Γ hn => ?_
 repeat' (first
  | (refine zaf rfl ?_; simp)
  | (refine CallP.f2 rfl (h1) (by first | simp <;> rfl | fail) ?_; simp)
  | fail)
 refine EndW.norm (EndW.here ?_)
 (refine EndOK.val (.inr rfl) ?_; simp [Tryz.results9])
open Df in
theorem ztG (b : By) (m : Int) (c : List Int) (l : Int) : Fun Tryz.prog 3 [.u (.agg (zaE b)), .u (.int .i64 m), .u (ints c), .u (.int .i64 l)] (· = .u (.bool true)) := by
 have hs := zmK;have hf := zrF b c;by_cases hF : zrG b c = true /\ 0 <= l /\ l <= 7
 ·obtain ⟨hF, hl0, hl7⟩ := hF;rw [hF] at hf;have hc9 : c.length <= 9 := by unfold zrG at hF; simp at hF; omega
  clear hF;have h1 := ziT b m l;have h2 := ziT b m (l + 1);have h3 := zem b m c (by omega);have h4 := zem b m (ze8 c.length) (by rw [zfR]; omega);have h5 : Fun Tryz.prog 9 [.u (.agg (zaE b)), .u (.str zga), .u (zdS [⟨zlH, 0, m⟩, ⟨zm0, 0, 0⟩])] (· = .tup [.u (.int .i64 (zer b m).1), .u (.bool (decide ((zer b m).2 = 0)))]) := zmo b zga _;have q1 := @zrI b m l;have q2 := fun w => @zpu b m l w hl0;have q3 := fun n => @zrH b m l n c;have q4 := @zpL b m c;have q5 : (za5 b m c).2.2.2 = 0 -> (za5 b m (ze8 c.length)).2.2.2 = 0 /\ (za5 b m (ze8 c.length)).2.2.1 = (za5 b m c).2.2.1 := fun h => by
   obtain ⟨hr, _⟩ := zgs h;rw [<- zjJ hr (zjG hr (zd5 hr).1) (zfR _).symm];exact ⟨h, rfl⟩
  have hvi : 0 <= (zer b m).1 /\ (zer b m).1 <= 1099511627776 := zk4 b zga _;have hpi := zkp b m c;generalize zer b m = HO at *;obtain ⟨hold, he⟩ := HO;generalize zet b m l = X1 at *;obtain ⟨n, e⟩ := X1;generalize zet b m (l + 1) = X2 at *;obtain ⟨w, f⟩ := X2;generalize hP : za5 b m c = P1 at *;obtain ⟨V1, C1, bound, g⟩ := P1;obtain ⟨Y, hY⟩ : ∃ Y, Y = za5 b m (ze8 c.length) := ⟨_, rfl⟩;rw [<- hY] at h4 q5;obtain ⟨V2, C2, same, h⟩ := Y;clear hY hP;simp only [ints, zaE, zlH, zm0, zga, zdS, zzC, zzD, Prod.mk.injEq] at *;have hpr := zen (x := l) (y := hold) (B := 1099511627776) (C := 7) (by omega) (by omega) (by omega);have hpr0 : 0 <= l * hold := Int.mul_nonneg (by omega) (by omega);have hlA : ¬ l < 0 := by omega
  have hlB : ¬ 7 < l := by omega
  by_cases he0 : e = 0
  case neg =>
   have hn0 : n = 0 := q1 he0;have hf0 : ¬ f = 0 := fun hf => by
    obtain ⟨n', h7, _⟩ := q2 w ⟨rfl, hf⟩;exact he0 h7.2
   subst hn0;refine Fun.runW Tryz.func3 Tryz.ntmps3 rfl (by simp) fun Γ hn => ?_
   repeat' (first
  | (refine zaf rfl ?_; simp [hlA, hlB, he0, hf0])
  | (refine And.intro (by omega) ?_)
  | ((first | refine CallP.f2 rfl (hs) (by first | simp [hlA, hlB, he0, hf0] <;> rfl | fail) ?_ | refine CallP.f2 rfl (hf) (by first | simp [hlA, hlB, he0, hf0] <;> rfl | fail) ?_ | refine CallP.f2 rfl (h1) (by first | simp [hlA, hlB, he0, hf0] <;> rfl | fail) ?_ | refine CallP.f2 rfl (h2) (by first | simp [hlA, hlB, he0, hf0] <;> rfl | fail) ?_ | refine CallP.f2 rfl (h3) (by first | simp [hlA, hlB, he0, hf0] <;> rfl | fail) ?_ | fail); simp [hlA, hlB, he0, hf0])
  | fail)
   refine EndW.norm (EndW.here ?_)
   (refine EndOK.val (.inr rfl) ?_; simp [Tryz.results3])
  subst he0;obtain ⟨hh0, hnl, hnb⟩ := q3 n ⟨rfl, rfl⟩;have hnl' : ¬ n < l * hold := by omega
  subst hh0;have hfw : f = 0 -> ¬ w < n := fun hf => by
   obtain ⟨n', h7, h8⟩ := q2 w ⟨rfl, hf⟩;have := h7.1;omega
  have hgg : g ≠ 0 \/ h = 0 /\ same = bound := by
   by_cases hg0 : g = 0
   ·exact .inr (q5 hg0)
   ·exact .inl hg0
  have hX : ¬ (g = 0 /\ (c.length : Int) <= l /\ n < bound + l * hold) := fun ⟨a1, a2, a3⟩ => by have := hnb a1 a2; omega
  have hY : ¬ (g = 0 /\ (b.kind = 2 \/ c.length = 0) /\ bound ≠ 0) := fun ⟨a1, a2, a3⟩ => a3 (q4 a1 a2);have hh4 := zkp b m (ze8 c.length);clear q1 q2 q3 q4 q5 hnb;have hmi : -4503599627370496 <= same /\ same <= 4503599627370496 \/ True := .inr trivial;refine Fun.runW Tryz.func3 Tryz.ntmps3 rfl (by simp) fun Γ hn => ?_; simp only [zzE, zzC, zzD];apply zv1 (S := { n := 166, env := [(1, .u (.int .i64 m)), (2, .u (.sl (c.map fun n => [.int .i64 n]))), (4, .ptr 0 0), (9, .u (.bool true)), (15, .u (.int .i64 bound)), (16, .u (.int .i64 g)), (19, .u .nil), (20, .u (.int .i64 0))], obs := [(0, .box [.u (.int .i64 b.kind), .u (.int .i64 b.period), .u (.int .i64 b.grace), .u (.int .i64 b.wait), .u (.int .i64 b.last), .u (.int .i64 b.order), .u (.bool b.sld), .u (.int .i64 b.backs), .u (.int .i64 b.voices), .u (.int .i64 b.jury), .u (.int .i64 b.fund), .u (.sl (b.lets.map fun l => [.str l.name, .int .i64 l.body.op, .int .i64 l.body.n, .int .i64 l.body.unit, .str l.body.s, .sl (l.body.args.map Exp.row)])), .u (.int .i64 b.due.op), .u (.int .i64 b.due.n), .u (.int .i64 b.due.unit), .u (.str b.due.s), .u (.sl (b.due.args.map Exp.row)), .u (.int .i64 b.fine.op), .u (.int .i64 b.fine.n), .u (.int .i64 b.fine.unit), .u (.str b.fine.s), .u (.sl (b.fine.args.map Exp.row)), .u (.int .i64 b.pay.op), .u (.int .i64 b.pay.n), .u (.int .i64 b.pay.unit), .u (.str b.pay.s), .u (.sl (b.pay.args.map Exp.row)), .u (.int .i64 b.cover.op), .u (.int .i64 b.cover.n), .u (.int .i64 b.cover.unit), .u (.str b.cover.s), .u (.sl (b.cover.args.map Exp.row)), .u (.int .i64 b.hold.op), .u (.int .i64 b.hold.n), .u (.int .i64 b.hold.unit), .u (.str b.hold.s), .u (.sl (b.hold.args.map Exp.row))])], next := 1 })
  case main =>
   intro key
   repeat' (first
  | (refine Cnd.of (fun hc => ?_) (fun hc => ?_) <;> (try (exfalso; omega)) <;> (try simp [hlA, hlB, hnl']))
  | (refine zaf rfl ?_; simp [hlA, hlB, hnl'])
  | (refine And.intro (by omega) ?_)
  | ((first | refine CallP.f2 rfl (hs) (by first | simp [hlA, hlB, hnl'] <;> rfl | fail) ?_ | refine CallP.f2 rfl (hf) (by first | simp [hlA, hlB, hnl'] <;> rfl | fail) ?_ | refine CallP.f2 rfl (h1) (by first | simp [hlA, hlB, hnl'] <;> rfl | fail) ?_ | refine CallP.f2 rfl (h2) (by first | simp [hlA, hlB, hnl'] <;> rfl | fail) ?_ | refine CallP.f2 rfl (h3) (by first | simp [hlA, hlB, hnl'] <;> rfl | fail) ?_ | refine CallP.f2 rfl (h5) (by first | simp [hlA, hlB, hnl'] <;> rfl | fail) ?_ | fail); simp [hlA, hlB, hnl'])
  | fail)
   all_goals first
    | (refine zkX _ ?_ key; exact (Wk.zCW _ (by simp [zxb, zxq, St.lp, zax, zaa, getK, zac, zad] <;> rfl) rfl (by simp [hn]) (by simp [zsy, zhQ, St.lp, zax, zaa, getK, zac, zad, D.under, D.le, D.ren] <;> (try (intros; simp_all; done)) <;> (try omega)) (by simp [zsy, wkR, St.lp, zaa, getK, zac, zad, obR, leU, zch, za2, Ob.under, D.under, D.le, D.ren] <;> (try (intros; simp_all; done)) <;> (try omega)) (by simp [zsy])))
    | (exfalso; clear key hs hf h1 h2 h3 h4 h5; grind)
  case key =>
  clear hs hf h1 h2 h3 h5 hX hY hfw;refine zhP 0 ?_;simp [frzB, zav, zau, St.frzS, frzS, fv, za1, zbm, zbn, frzObS, zat, zan, del];refine zkX _ (Wk.own 19 3 1 (by decide) rfl) ?_;simp [St.own];refine zbS (α := { j : Nat // j <= c.length }) [1, 2, 4, 9, 15, 16] (fun j => [(19, .vec 1 j.1), (20, .u (.int .i64 j.1))]) (fun j => [(1, .vec 3 1 (intR (ze8 j.1)))]) 2 (fun j => c.length - j.1) ⟨0, by omega⟩ ?_ ?_
  ·exact (Wk.zdw (by simp [hn, ze8, intR] <;> grind))
  rintro ⟨j, hj⟩;simp;have hul := zfR j;have hil : (intR (ze8 j)).length = j := by rw [zag, hul]
  by_cases hjl : j < c.length
  ·have hji : (j : Int) < c.length := by omega
   have hap : intR (ze8 j) ++ [[D.u (.int .i64 (j : Int))]] = intR (ze8 (j + 1)) := by rw [zk8]; simp [intR]
   repeat' (first
  | (refine zaf rfl ?_; simp [hji, hil, hap])
  | (refine And.intro (by omega) ?_)
  | fail)
   refine LoopW.next ⟨j + 1, by omega⟩ (by simp; omega) ?_
   exact (Wk.ren ((fun i => if i = 1 then 3 else i)) rfl (by first | (simp [hn]; done) | (intro i hi; rw [hn] at hi; constructor <;> (try simp) <;> (try (intro _)) <;> omega)) (by simp [zhQ, St.lp, zax, zaa, getK, zac, zad, D.under, D.le, D.ren, hap, zal, zai] <;> (try (intros; simp_all; done)) <;> (try omega)) (by simp [wkR, St.lp, zaa, getK, zac, zad, obR, leU, zch, za2, Ob.under, D.under, D.le, D.ren, hap, zal, zai] <;> (try (intros; simp_all; done)) <;> (try omega)) (by simp [hap, zal, zai]))
  ·obtain rfl : j = c.length := by omega
   have hji : ¬ ((c.length : Int) < c.length) := Int.lt_irrefl _;have htk : (intR (ze8 c.length)).take c.length = intR (ze8 c.length) := List.take_of_length_le (by omega);by_cases hg0 : g = 0
   ·obtain ⟨rfl, rfl⟩ : h = 0 /\ same = bound := by rcases hgg with h | h; exact absurd hg0 h; exact h
    repeat' (first
  | (refine zaf rfl ?_; simp [hji, hil, htk, zbF, hg0])
  | (refine CallP.f2 rfl (h4) (by first | simp [hji, hil, htk, zbF, hg0] <;> rfl | fail) ?_; simp [hji, hil, htk, zbF, hg0])
  | fail)
    refine EndW.norm (EndW.here ?_)
    (refine EndOK.val (.inr rfl) ?_; simp [Tryz.results3])
   ·repeat' (first
  | (refine zaf rfl ?_; simp [hji, hil, htk, zbF, hg0])
  | (refine CallP.f2 rfl (h4) (by first | simp [hji, hil, htk, zbF, hg0] <;> rfl | fail) ?_; simp [hji, hil, htk, zbF, hg0])
  | fail)
    refine EndW.norm (EndW.here ?_)
    (refine EndOK.val (.inr rfl) ?_; simp [Tryz.results3])
 ·cases hF2 : zrG b c with
  | false =>
   rw [hF2] at hf;simp only [zaE, ints] at hf ⊢;refine Fun.runW Tryz.func3 Tryz.ntmps3 rfl (by simp) fun Γ hn => ?_
   repeat' (first
  | (refine zaf rfl ?_; simp)
  | ((first | refine CallP.f2 rfl (hs) (by first | simp <;> rfl | fail) ?_ | refine CallP.f2 rfl (hf) (by first | simp <;> rfl | fail) ?_ | fail); simp)
  | fail)
   refine EndW.norm (EndW.here ?_)
   (refine EndOK.val (.inr rfl) ?_; simp [Tryz.results3])
  | true =>
   rw [hF2] at hf;simp only [zaE, ints] at hf ⊢;by_cases hl7 : 7 < l
   ·refine Fun.runW Tryz.func3 Tryz.ntmps3 rfl (by simp) fun Γ hn => ?_
    repeat' (first
  | (refine zaf rfl ?_; simp [hl7])
  | ((first | refine CallP.f2 rfl (hs) (by first | simp [hl7] <;> rfl | fail) ?_ | refine CallP.f2 rfl (hf) (by first | simp [hl7] <;> rfl | fail) ?_ | fail); simp [hl7])
  | fail)
    refine EndW.norm (EndW.here ?_)
    (refine EndOK.val (.inr rfl) ?_; simp [Tryz.results3])
   ·have hl0 : l < 0 := by have : ¬ (0 <= l /\ l <= 7) := fun h => hF ⟨hF2, h⟩; omega
    refine Fun.runW Tryz.func3 Tryz.ntmps3 rfl (by simp) fun Γ hn => ?_
    repeat' (first
  | (refine zaf rfl ?_; simp [hl7, hl0])
  | ((first | refine CallP.f2 rfl (hs) (by first | simp [hl7, hl0] <;> rfl | fail) ?_ | refine CallP.f2 rfl (hf) (by first | simp [hl7, hl0] <;> rfl | fail) ?_ | fail); simp [hl7, hl0])
  | fail)
    refine EndW.norm (EndW.here ?_)
    (refine EndOK.val (.inr rfl) ?_; simp [Tryz.results3])
end Go.Proofs.YtmlpcgkaonifcaaGreatDoor
