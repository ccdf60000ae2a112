import Derived.Test.YtmlpcgkaonifcaaGreatDoorA6
set_option linter.all false
set_option maxRecDepth 100000
set_option maxHeartbeats 8000000
namespace Go.Proofs.YtmlpcgkaonifcaaGreatDoor
open Go Go.VL
open Df (SolveSpec)
attribute [local simp] HS zbu zcZ zcp evPure opd uOf zaA St.put St.at getK binD binI binS binB nilD aggD zfv zf5 lookD lookR zcm rangeS Go.VL.nextD Go.VL.nextS zco zge zgb zfp zcv mkV zbf zaS zaR zaQ zcX zaO za8 zbt mapEff zdD ze5 Key.kk shiftI arith unD convD zdq loadD cellsAt fieldAddrD fieldD indexAddrD indexSlD arrAddr indexD sliceD cutD lenD minmaxD nilCheckD buildD fillD zbY zc2 zev setAll zcT zd9 zci zfs zch St.add zaw zbz rowsOf zdf zcx zad zac zaa zbx zc8 zaZ entry zbM zbQ valD zcl zcw zft zdb zdc zb0 zbK zal zaW zbh delAll effD St.effS zcE zaT zaG zcF zaU zaI zbV zaH zaz zbW zcC zbs zbU za5 zbS zbT zar mkD zcj zbD zbI zal zcr D.ids Op.operands Call.operands zbF makeIfD makeFuncD typeAssertD zf4 zdi zdj zfR zcn IntKind.bits zct zay List.take_of_length_le List.range_succ zcN zcc zcO zcI zbB zb1 zb3 zcJ zb5 zbc zb4 zb2 zg4 zcb zcL zaX zaK zcM zaY zaM zca zaL zaD zcR zcS zgB zab frzN frz1 zav zau St.frz St.frzS frzS fv za2 zbn zbo frzObS zat zan frz zbL zbk zbl zbN zb7 zce za6 St.norm St.lp St.only zax wkE wkO wkU Ob.under D.under zaj zak zcP zcd zcQ h4s zd1 zaC zbC List.zipIdx_cons List.zipIdx_nil zzC zzD Nat.zero_add
attribute [local irreducible] V G H HD HD2 HD4 zg6 RetX zbg Eff CallP CallV EndOK Fun Ret FinOK LoopI LoopW EndW HR vs2 RN Cnd H4
theorem znJ (b : By) (m : Int) (c : List Int) (hl : c.length <= 1000000) : Fun Tryz.prog 22 [.u (.agg (zaF b)), .u (.int .i64 m), .u (ints c)] (· = .tup [.u (zcG (zd2 b m c).1), .u (.int .i64 (zd2 b m c).2)]) := by
 have h1 := zto b m c hl;have h2 := @zjD b m c;unfold zd2;generalize zd8 b m c = G at *;obtain ⟨l, e⟩ := G;simp only at h1 h2 ⊢;by_cases he : e = 0
 ·subst he;obtain ⟨_, hr, _⟩ := zfy (h2 rfl);have h3 := zni b;obtain ⟨V, C, E, hS, h4⟩ := Df.solve_ex (zkK b) 5 (by have := zkJ b; show 6 * (5 * _) <= _; omega);have hE := zma hr hS;have hcl := zkJ b;rw [if_neg (by simp)];simp only [Df.consU, ints, Df.ints, zcG, zaF] at h1 h3 h4 ⊢;by_cases hB : zhJ b = true
  ·rw [if_pos hB] at hE ⊢;subst hE;refine Fun.runW Tryz.func22 Tryz.ntmps22 rfl (by simp) fun Γ hn => ?_
   repeat' (first
  | (refine zaf rfl ?_; simp)
  | ((first | refine CallP.f2 rfl (h1) (by first | simp <;> rfl | fail) ?_ | refine CallP.f2 rfl (h3) (by first | simp <;> rfl | fail) ?_ | refine CallP.f2 rfl (h4) (by first | simp <;> rfl | fail) ?_ | fail); simp)
  | fail)
   refine EndW.norm (EndW.here ?_)
   (refine EndOK.val (.inr rfl) ?_; simp [Tryz.results22])
  ·rw [if_neg hB] at hE ⊢;subst hE;refine Fun.runW Tryz.func22 Tryz.ntmps22 rfl (by simp) fun Γ hn => ?_
   repeat' (first
  | (refine zaf rfl ?_; simp)
  | ((first | refine CallP.f2 rfl (h1) (by first | simp <;> rfl | fail) ?_ | refine CallP.f2 rfl (h3) (by first | simp <;> rfl | fail) ?_ | refine CallP.f2 rfl (h4) (by first | simp <;> rfl | fail) ?_ | fail); simp)
  | fail)
   refine EndW.norm (EndW.here ?_)
   (refine EndOK.val (.inr rfl) ?_; simp [Tryz.results22])
   all_goals simp
 ·rw [if_pos he];simp only [ints, zcG, zaF] at h1 ⊢;refine Fun.runW Tryz.func22 Tryz.ntmps22 rfl (by simp) fun Γ hn => ?_
  repeat' (first
  | (refine zaf rfl ?_; simp [he])
  | (refine CallP.f2 rfl (h1) (by first | simp [he] <;> rfl | fail) ?_; simp [he])
  | fail)
  refine EndW.norm (EndW.here ?_)
  (refine EndOK.val (.inr rfl) ?_; simp [Tryz.results22])
  all_goals simp
theorem zkl {b : By} {m : Int} {c : List Int} (h : (zd2 b m c).2 = 0) : zfr (zd2 b m c).1 = true := by
 unfold zd2 at h ⊢;split at h
 ·rename_i h1; exact absurd h h1
 ·rename_i h1;rw [if_neg h1];split at h
  ·rename_i h2;rw [if_pos h2];exact zpg (by simpa using h1)
  ·cases h
theorem zeP (b : By) (m : Int) (c : List Int) (hl : c.length <= 1000000) : Fun Tryz.prog 8 [.u (.agg (zaF b)), .u (.int .i64 m), .u (ints c)] (· = .tup [.u (.agg [ints (zbp b m c).1, ints (zbp b m c).2.1]), .u (.int .i64 (zbp b m c).2.2.1), .u (.int .i64 (zbp b m c).2.2.2)]) := by
 have h1 := znJ b m c hl;have h2 := @zkl b m c;unfold zbp;generalize zd2 b m c = G at *;obtain ⟨l, e⟩ := G;simp only at h1 h2 ⊢;by_cases he : e = 0
 ·subst he;rw [if_neg (by simp)];have hg := h2 rfl;have h3 := zpd l hg;have h4 := zkX l;have h5 := ((zdJ l).1 hg).1;obtain ⟨v, hv⟩ : ∃ v, (zgm l)[0]? = some v := ⟨_, List.getElem?_eq_getElem (by omega)⟩;have hve := (List.getElem?_eq_some_iff.1 hv).2;have h6 : 0 < (zgm l).length := by omega
  simp only [List.getD_eq_getElem?_getD, hv, Option.getD_some];generalize zgm l = VS at *;generalize ofP l (zgi l) false = CS at *;simp only [ints, zcG, zaF] at h1 h3 ⊢;refine Fun.runW Tryz.func8 Tryz.ntmps8 rfl (by simp) fun Γ hn => ?_
  repeat' (first
  | (refine zaf rfl ?_; simp [hv, hve, h6])
  | (refine ⟨hC _ (by kernel_rfl), hk _ (zdG 8 _ _ _ ?_)⟩; clear hC hk C k; simp [hv, hve, h6])
  | (refine zdv rfl (by kernel_rfl) (by first | (simp [hn] <;> omega) | fail) fun C k hC hk => ?_; simp [hv, hve, h6])
  | ((first | refine CallP.f2 rfl (h1) (by first | simp [hv, hve, h6] <;> rfl | fail) ?_ | refine CallP.f2 rfl (h3) (by first | simp [hv, hve, h6] <;> rfl | fail) ?_ | fail); simp [hv, hve, h6])
  | fail)
  refine EndW.norm (EndW.here ?_)
  (refine EndOK.val (.inr rfl) ?_; simp [Tryz.results8])
 ·rw [if_pos he];simp only [ints, zcG, zaF] at h1 ⊢;refine Fun.runW Tryz.func8 Tryz.ntmps8 rfl (by simp) fun Γ hn => ?_
  repeat' (first
  | (refine zaf rfl ?_; simp [he])
  | (refine CallP.f2 rfl (h1) (by first | simp [he] <;> rfl | fail) ?_; simp [he])
  | fail)
  refine EndW.norm (EndW.here ?_)
  (refine EndOK.val (.inr rfl) ?_; simp [Tryz.results8])
  all_goals simp
theorem ziT (b : By) (m : Int) (c vs cs : List Int) (bd : Int) (hl : c.length <= 1000000) (h0 : (zd2 b m c).2 = 0) (h1 : vs.length = (zd2 b m c).1.length) (h2 : cs.length = (zd2 b m c).1.length) (hv : zjv vs) : Fun Tryz.prog 15 [.u (.agg (zaF b)), .u (.int .i64 m), .u (ints c), .u (.agg [ints vs, ints cs]), .u (.int .i64 bd)] (· = .u (.int .i64 (if zg0 (zd2 b m c).1 vs cs ≠ 0 \/ bd < vs.getD 0 0 then 21 else 0))) := by
 have h3 := znJ b m c hl;have hg := zkl h0;generalize zd2 b m c = G at *;obtain ⟨l, e⟩ := G;simp only at *;subst h0;have h4 := zpf l vs cs hg h1 h2 hv;have h5 := ((zdJ l).1 hg).1;obtain ⟨v, hv⟩ : ∃ v, vs[0]? = some v := ⟨_, List.getElem?_eq_getElem (by omega)⟩;have hve := (List.getElem?_eq_some_iff.1 hv).2;have h6 : 0 < vs.length := by omega
 simp only [List.getD_eq_getElem?_getD, hv, Option.getD_some];generalize zg0 l vs cs = K at *;simp only [ints, zcG, zaF] at h3 h4 ⊢;by_cases hK : K = 0
 ·subst hK;by_cases hb : bd < v
  ·rw [if_pos (.inr hb)];refine Fun.runW Tryz.func15 Tryz.ntmps15 rfl (by simp) fun Γ hn => ?_
   repeat' (first
  | (refine zaf rfl ?_; simp [hv, hve, h6, hb])
  | ((first | refine CallP.f2 rfl (h3) (by first | simp [hv, hve, h6, hb] <;> rfl | fail) ?_ | refine CallP.f2 rfl (h4) (by first | simp [hv, hve, h6, hb] <;> rfl | fail) ?_ | fail); simp [hv, hve, h6, hb])
  | fail)
   refine EndW.norm (EndW.here ?_)
   (refine EndOK.val (.inr rfl) ?_; simp [Tryz.results15])
  ·rw [if_neg (by simp [hb])];refine Fun.runW Tryz.func15 Tryz.ntmps15 rfl (by simp) fun Γ hn => ?_
   repeat' (first
  | (refine zaf rfl ?_; simp [hv, hve, h6, hb])
  | ((first | refine CallP.f2 rfl (h3) (by first | simp [hv, hve, h6, hb] <;> rfl | fail) ?_ | refine CallP.f2 rfl (h4) (by first | simp [hv, hve, h6, hb] <;> rfl | fail) ?_ | fail); simp [hv, hve, h6, hb])
  | fail)
   refine EndW.norm (EndW.here ?_)
   (refine EndOK.val (.inr rfl) ?_; simp [Tryz.results15])
 ·rw [if_pos (.inl hK)];refine Fun.runW Tryz.func15 Tryz.ntmps15 rfl (by simp) fun Γ hn => ?_
  repeat' (first
  | (refine zaf rfl ?_; simp [hK])
  | ((first | refine CallP.f2 rfl (h3) (by first | simp [hK] <;> rfl | fail) ?_ | refine CallP.f2 rfl (h4) (by first | simp [hK] <;> rfl | fail) ?_ | fail); simp [hK])
  | fail)
  refine EndW.norm (EndW.here ?_)
  (refine EndOK.val (.inr rfl) ?_; simp [Tryz.results15])
end Go.Proofs.YtmlpcgkaonifcaaGreatDoor
namespace Go.Proofs.YtmlpcgkaonifcaaGreatDoor
open Go Go.VL
attribute [local simp] HS zbu zcZ zcp evPure opd uOf zaA St.put St.at getK binD binI binS binB nilD aggD zfv zf5 lookD lookR zcm rangeS Go.VL.nextD Go.VL.nextS zco zge zgb zfp zcv mkV zbf zaS zaR zaQ zcX zaO za8 zbt mapEff zdD ze5 Key.kk shiftI arith unD convD zdq loadD cellsAt fieldAddrD fieldD indexAddrD indexSlD arrAddr indexD sliceD cutD lenD minmaxD nilCheckD buildD fillD zbY zc2 zev setAll zcT zd9 zci zfs zch St.add zaw zbz rowsOf zdf zcx zad zac zaa zbx zc8 zaZ entry zbM zbQ valD zcl zcw zft zdb zdc zb0 zbK zal zaW zbh delAll effD St.effS zcE zaT zaG zcF zaU zaI zbV zaH zaz zbW zcC zbs zbU za5 zbS zbT zar mkD zcj zbD zbI zal zcr D.ids Op.operands Call.operands zbF makeIfD makeFuncD typeAssertD zf4 zdi zdj zfR zcn IntKind.bits zct zay List.take_of_length_le List.range_succ zcN zcc zcO zcI zbB zb1 zb3 zcJ zb5 zbc zb4 zb2 zg4 zcb zcL zaX zaK zcM zaY zaM zca zaL zaD zcR zcS zgB zab frzN frz1 zav zau St.frz St.frzS frzS fv za2 zbn zbo frzObS zat zan frz zbL zbk zbl zbN zb7 zce za6 St.norm St.lp St.only zax wkE wkO wkU Ob.under D.under zaj zak zcP zcd zcQ h4s zd1 zaC zbC List.zipIdx_cons List.zipIdx_nil zzC zzD Nat.zero_add
attribute [local irreducible] V G H HD HD2 HD4 zg6 RetX zbg Eff CallP CallV EndOK Fun Ret FinOK LoopI LoopW EndW HR vs2 RN Cnd H4
theorem zwl {l : List Tok} {F : FuncId} {r : PR (Exp × Int)} {e : Exp × Int} {q i nx : Nat} {ds : List D} {obs : List (Nat × Ob)} (h : RetX Tryz.prog F ds obs nx (PPost l i nx zls r)) (hr : r = .ok e q) :
  RetX Tryz.prog F ds obs nx fun r o n => r = .val (.tup [.u (.agg [.int .i64 e.1.op, .int .i64 e.1.n, .int .i64 e.1.unit, .str e.1.s, .sl (e.1.args.map Exp.row)]), .u (.int .i64 e.2)]) /\ o = [(i, pOb l q)] /\ n = nx := by
 subst hr;rw [<- Exp.row_eq];exact h
abbrev zxN (e : Exp) : Ob := .box [.u (.int .i64 e.op), .u (.int .i64 e.n), .u (.int .i64 e.unit), .u (.str e.s), .u (.sl (e.args.map Exp.row))]
theorem ztz {l : List Tok} (hl : TokOK l) {f : Nat} (hE : ∀ g, g < f -> zhS l g) (hP : zvX l f) : zhS l (f + 1) := by
 intro p form i nx hi hp hf hm0 hm7;have hne := zbm hi;have hll := hl.len;rw [zfu];have ha := fun nx' (h : nx <= nx') => hP p form i nx' (by omega) hp (by omega) hm0 hm7;have hop := zkk;cases hr0 : zcy l f p form with
 | stop pos e =>
  simp only [hr0] at ha;refine RetX.runW Tryz.func119 Tryz.ntmps119 rfl (by simp) fun Γ hn hpan => ?_
  repeat' (first
  | (refine zaf rfl ?_; simp [hne, del, zzA])
  | (refine CallP.zgg (ha _ (by first | omega | (simp <;> omega) | fail)) (by first | (simp [hne, del, zzA, zaa, getK, zab, zac]; done) | fail) (by rfl) (by first | assumption | (simp; done) | fail) (by rfl) (by simp) ?_; rintro ob' ⟨q', rfl⟩; refine ⟨_, Wk.refl _, ?_⟩)
  | fail)
  (refine hpan _ _ (PanG.k ([(i, pOb l q')]) (nx) (by simp [hn, hi, hne, zab, zac, zaa, getK] <;> omega) ?_); try simp)
  exact PPost.zbe (by simp [PR.bind, *])
 | ok v0 q0 =>
  have ha := fun nx' h => zwl (ha nx' h) hr0;obtain ⟨g0a, g0b⟩ := (zdB hl f).2.2.1 _ _ _ _ hr0 hp;generalize hR : (PR.ok v0 q0).bind (fun e q => zgd l f form e.1 e.2 q) = R;have hR' : R = zgd l f form v0.1 v0.2 q0 := hR.symm;refine RetX.runW Tryz.func119 Tryz.ntmps119 rfl (by simp) fun Γ hn hpan => ?_
  repeat' (first
  | (refine zaf rfl ?_; simp [hne, del, zzA])
  | (refine CallP.ok1 (ha _ (by first | omega | (simp <;> omega) | fail)) (by first | (simp [hne, del, zzA, zaa, getK, zab, zac]; done) | fail) (by rfl) (by first | assumption | (simp; done) | fail) (by rfl) (by simp) ?_; (try simp [hne, del, zzA]))
  | fail)
  refine zbZ (α := { x : Exp × Int × Nat × Nat // x.2.2.1 < l.length /\ 4 * (l.length - x.2.2.1) + 2 <= x.2.2.2 /\ x.2.2.2 <= f /\ R = zgd l x.2.2.2 form x.1 x.2.1 x.2.2.1 }) [0, 1, 2, 4, 5] (fun x => [(6, .u (.int .i64 x.1.2.1))])
   (fun x => [(nx + 2, zxN x.1.1), (nx + 1, .box [.u (.int .i64 0), .u (.int .i64 0), .u (.int .i64 0), .u (.str []), .u .nil]), (nx, .box [.ptr i 0]), (i, pOb l x.1.2.2.1)]) (nx + 3) (fun x => x.1.2.2.2) ⟨(v0.1, v0.2, q0, f), g0b, (by show 4 * (l.length - q0) + 2 <= f; omega), (by show f <= f; omega), hR'⟩ ?_ ?_
  ·have hi3 : i < nx + 3 := by omega
   exact (Wk.zdz (by simp [hn, hi, hi3, hne] <;> grind))
  rintro ⟨⟨e, own, q, g⟩, h1, h2, h2b, h3⟩;simp only at h1 h2 h2b h3;simp;obtain ⟨g, rfl⟩ : ∃ g', g = g' + 1 := ⟨g - 1, by omega⟩;rw [zgd] at h3;have hix := zo5 l q h1 hl.len;cases hx : zwm l q with
  | none =>
   rw [(ziG oprs 0).1 hx] at hix;rw [hx] at h3
   repeat' (first
  | (refine zaf rfl ?_; simp [hne, del, zzA])
  | ((first | refine CallP.f2 rfl (hop) (by first | simp [hne, del, zzA] <;> rfl | fail) ?_ | refine CallP.f2 rfl (hix) (by first | simp [hne, del, zzA] <;> rfl | fail) ?_ | fail); simp [hne, del, zzA])
  | fail)
   refine EndW.norm ?_;simp [St.norm, za6, zbN, zb7, zce, hne, zzA]
   (refine EndW.z ([(i, pOb l q)]) (N := nx) Tryz.results119 (by simp [hne, hi] <;> omega) ?_; simp [hne, hi])
   exact PPost.zdw h3 (by simp [Exp.row_eq]) rfl
  | some x =>
   obtain ⟨k, hk1, hk2⟩ := (ziG oprs 0).2 x hx;rw [hk2] at hix;rw [hx] at h3;simp only at h3;have hqb := zbR hl (by have := List.find?_some (p := fun o : Opr => isB l q o.text) hx; exact this);have hk0 : ¬ ((k : Int) < 0) := by omega
   have hkl : k < 8 := (List.getElem?_eq_some_iff.1 hk1).1;rw [show (0 : Int) + k = (k : Int) by omega] at hix;have hfm : 0 <= x.form /\ x.form <= 6 := by
    have := List.mem_of_getElem? hk1;simp only [oprs, List.mem_cons, List.not_mem_nil, or_false] at this;rcases this with rfl | rfl | rfl | rfl | rfl | rfl | rfl | rfl <;> decide
   obtain ⟨hf0, hf6⟩ := hfm;generalize hL : oprs = L at hop hix hk1;by_cases c1 : x.form < form
   ·rw [if_pos (Or.inl c1)] at h3
    repeat' (first
  | (refine zaf rfl ?_; simp [hne, del, zzA, hk0, hk1, c1])
  | ((first | refine CallP.f2 rfl (hop) (by first | simp [hne, del, zzA, hk0, hk1, c1] <;> rfl | fail) ?_ | refine CallP.f2 rfl (hix) (by first | simp [hne, del, zzA, hk0, hk1, c1] <;> rfl | fail) ?_ | fail); simp [hne, del, zzA, hk0, hk1, c1])
  | fail)
    refine EndW.norm ?_;simp [St.norm, za6, zbN, zb7, zce, hne, zzA]
    (refine EndW.z ([(i, pOb l q)]) (N := nx) Tryz.results119 (by simp [hne, hi] <;> omega) ?_; simp [hne, hi])
    exact PPost.zdw h3 (by simp [Exp.row_eq]) rfl
   ·by_cases c2 : own < x.form
    ·rw [if_pos (Or.inr (Or.inl c2))] at h3
     repeat' (first
  | (refine zaf rfl ?_; simp [hne, del, zzA, hk0, hk1, c1, c2])
  | ((first | refine CallP.f2 rfl (hop) (by first | simp [hne, del, zzA, hk0, hk1, c1, c2] <;> rfl | fail) ?_ | refine CallP.f2 rfl (hix) (by first | simp [hne, del, zzA, hk0, hk1, c1, c2] <;> rfl | fail) ?_ | fail); simp [hne, del, zzA, hk0, hk1, c1, c2])
  | fail)
     refine EndW.norm ?_;simp [St.norm, za6, zbN, zb7, zce, hne, zzA]
     (refine EndW.z ([(i, pOb l q)]) (N := nx) Tryz.results119 (by simp [hne, hi] <;> omega) ?_; simp [hne, hi])
     exact PPost.zdw h3 (by simp [Exp.row_eq]) rfl
    ·by_cases c3 : own = 4 /\ x.form = 4
     ·rw [if_pos (Or.inr (Or.inr c3))] at h3;obtain ⟨c4, c5⟩ := c3
      repeat' (first
  | (refine Cnd.of (fun hc => ?_) (fun hc => ?_) <;> (try (exfalso; omega)) <;> (try simp [hne, del, zzA, hk0, hk1, c1, c2, c4, c5]))
  | (refine zaf rfl ?_; simp [hne, del, zzA, hk0, hk1, c1, c2, c4, c5])
  | ((first | refine CallP.f2 rfl (hop) (by first | simp [hne, del, zzA, hk0, hk1, c1, c2, c4, c5] <;> rfl | fail) ?_ | refine CallP.f2 rfl (hix) (by first | simp [hne, del, zzA, hk0, hk1, c1, c2, c4, c5] <;> rfl | fail) ?_ | fail); simp [hne, del, zzA, hk0, hk1, c1, c2, c4, c5])
  | fail)
      refine EndW.norm ?_;simp [St.norm, za6, zbN, zb7, zce, hne, zzA]
      (refine EndW.z ([(i, pOb l q)]) (N := nx) Tryz.results119 (by simp [hne, hi] <;> omega) ?_; simp [hne, hi])
      exact PPost.zdw h3 (by simp [Exp.row_eq]) rfl
     ·rw [if_neg (by rintro (h | h | h) <;> contradiction)] at h3;have hb := fun nx' (h : nx <= nx') => hE g (by omega) (q + 1) (x.form + 1) i nx' (by omega) hqb (by omega) (by omega) (by omega);cases hr1 : zfu l g (q + 1) (x.form + 1) with
      | stop pos err =>
       simp only [hr1] at hb;rw [hr1] at h3;by_cases c4 : own = 4
       ·have c5 : ¬ x.form = 4 := fun h => c3 ⟨c4, h⟩
        repeat' (first
  | (refine zg7 (fun nx' h' => hb nx' (by simp at h'; omega)) (by first | (simp [hne, del, zzA, hk0, hk1, c1, c2, c4, c5, zaa, getK, zab, zac, zad, zar]; done) | fail) (by rfl) (by first | assumption | simp) (by rfl) (by simp) ?_ ?_; rintro env' ob' n' hn' ⟨q', rfl⟩; refine ⟨_, Wk.refl _, ?_⟩)
  | (refine zfQ rfl (by simp) ?_; simp)
  | (refine Cnd.of (fun hc => ?_) (fun hc => ?_) <;> (try (exfalso; omega)) <;> (try simp [hne, del, zzA, hk0, hk1, c1, c2, c4, c5]))
  | (refine zaf rfl ?_; simp [hne, del, zzA, hk0, hk1, c1, c2, c4, c5])
  | (refine And.intro (by omega) ?_)
  | (refine zee (hC _ (zb6 [i] nx (by simp <;> omega) (by simp <;> omega) (by apply Exists.intro; apply And.intro; (focus (repeat' (first | exact KF.nil | exact KL.nil | apply KF.cons | apply KL.cons 0 rfl | apply KL.cons 1 rfl | apply KL.cons 2 rfl | apply KL.cons 3 rfl | apply KL.cons 4 rfl | apply KL.cons 5 rfl | apply KL.cons 6 rfl | apply KL.cons 7 rfl | apply KL.cons 8 rfl | apply KL.cons 9 rfl))); kernel_rfl))) rfl; done)
  | (refine zdv rfl (by kernel_rfl) (by first | (simp [hn] <;> omega) | fail) fun C k hC hk => ?_; simp [hne, del, zzA, hk0, hk1, c1, c2, c4, c5])
  | ((first | refine CallP.f2 rfl (hop) (by first | simp [hne, del, zzA, hk0, hk1, c1, c2, c4, c5] <;> rfl | fail) ?_ | refine CallP.f2 rfl (hix) (by first | simp [hne, del, zzA, hk0, hk1, c1, c2, c4, c5] <;> rfl | fail) ?_ | fail); simp [hne, del, zzA, hk0, hk1, c1, c2, c4, c5])
  | fail)
        (refine hpan _ _ (PanG.k ([(i, pOb l q')]) (nx) (by simp [hn, hi, hne, zab, zac, zaa, getK] <;> omega) ?_); try simp)
        exact PPost.zbe h3
       ·repeat' (first
  | (refine zg7 (fun nx' h' => hb nx' (by simp at h'; omega)) (by first | (simp [hne, del, zzA, hk0, hk1, c1, c2, c4, zaa, getK, zab, zac, zad, zar]; done) | fail) (by rfl) (by first | assumption | simp) (by rfl) (by simp) ?_ ?_; rintro env' ob' n' hn' ⟨q', rfl⟩; refine ⟨_, Wk.refl _, ?_⟩)
  | (refine zfQ rfl (by simp) ?_; simp)
  | (refine zaf rfl ?_; simp [hne, del, zzA, hk0, hk1, c1, c2, c4])
  | (refine And.intro (by omega) ?_)
  | (refine zee (hC _ (zb6 [i] nx (by simp <;> omega) (by simp <;> omega) (by apply Exists.intro; apply And.intro; (focus (repeat' (first | exact KF.nil | exact KL.nil | apply KF.cons | apply KL.cons 0 rfl | apply KL.cons 1 rfl | apply KL.cons 2 rfl | apply KL.cons 3 rfl | apply KL.cons 4 rfl | apply KL.cons 5 rfl | apply KL.cons 6 rfl | apply KL.cons 7 rfl | apply KL.cons 8 rfl | apply KL.cons 9 rfl))); kernel_rfl))) rfl; done)
  | (refine zdv rfl (by kernel_rfl) (by first | (simp [hn] <;> omega) | fail) fun C k hC hk => ?_; simp [hne, del, zzA, hk0, hk1, c1, c2, c4])
  | ((first | refine CallP.f2 rfl (hop) (by first | simp [hne, del, zzA, hk0, hk1, c1, c2, c4] <;> rfl | fail) ?_ | refine CallP.f2 rfl (hix) (by first | simp [hne, del, zzA, hk0, hk1, c1, c2, c4] <;> rfl | fail) ?_ | fail); simp [hne, del, zzA, hk0, hk1, c1, c2, c4])
  | fail)
        (refine hpan _ _ (PanG.k ([(i, pOb l q')]) (nx) (by simp [hn, hi, hne, zab, zac, zaa, getK] <;> omega) ?_); try simp)
        exact PPost.zbe h3
      | ok e2 q2 =>
       have hb := fun nx' h => zeo (hb nx' h) hr1;obtain ⟨g1a, g1b⟩ := (zdB hl g).1 _ _ _ _ hr1 hqb;rw [hr1] at h3;by_cases c4 : own = 4
       ·have c5 : ¬ x.form = 4 := fun h => c3 ⟨c4, h⟩
        repeat' (first
  | (refine zi3 (fun nx' h' => hb nx' (by simp at h'; omega)) (by first | (simp [hne, del, zzA, hk0, hk1, c1, c2, c4, c5, zaa, getK, zab, zac, zad, zar]; done) | fail) (by rfl) (by first | assumption | simp) (by rfl) (by simp [D.under, Ob.under]) (by simp) ?_; (try simp [hne, del, zzA, hk0, hk1, c1, c2, c4, c5]))
  | (refine Cnd.of (fun hc => ?_) (fun hc => ?_) <;> (try (exfalso; omega)) <;> (try simp [hne, del, zzA, hk0, hk1, c1, c2, c4, c5]))
  | (refine zaf rfl ?_; simp [hne, del, zzA, hk0, hk1, c1, c2, c4, c5])
  | (refine And.intro (by omega) ?_)
  | (refine ⟨hC _ (zb6 [i] nx (by simp <;> omega) (by simp <;> omega) (by apply Exists.intro; apply And.intro; (focus (repeat' (first | exact KF.nil | exact KL.nil | apply KF.cons | apply KL.cons 0 rfl | apply KL.cons 1 rfl | apply KL.cons 2 rfl | apply KL.cons 3 rfl | apply KL.cons 4 rfl | apply KL.cons 5 rfl | apply KL.cons 6 rfl | apply KL.cons 7 rfl | apply KL.cons 8 rfl | apply KL.cons 9 rfl))); kernel_rfl)), hk _ (zdG 8 _ _ _ ?_)⟩; clear hC hk C k; simp [hne, del, zzA, hk0, hk1, c1, c2, c4, c5])
  | (refine zdv rfl (by kernel_rfl) (by first | (simp [hn] <;> omega) | fail) fun C k hC hk => ?_; simp [hne, del, zzA, hk0, hk1, c1, c2, c4, c5])
  | (refine zcB rfl ?_; simp [hne, del, zzA, hk0, hk1, c1, c2, c4, c5])
  | ((first | refine CallP.f2 rfl (hop) (by first | simp [hne, del, zzA, hk0, hk1, c1, c2, c4, c5] <;> rfl | fail) ?_ | refine CallP.f2 rfl (hix) (by first | simp [hne, del, zzA, hk0, hk1, c1, c2, c4, c5] <;> rfl | fail) ?_ | fail); simp [hne, del, zzA, hk0, hk1, c1, c2, c4, c5])
  | fail)
        have hi3 : i < nx + 3 := by omega
        refine LoopW.next ⟨(.mk x.op 0 0 [] [e, e2], x.form, q2, g), g1b, (by show 4 * (l.length - q2) + 2 <= g; omega), (by show g <= f; omega), h3⟩ (by show g < g + 1; omega) ?_
        refine Wk.trans (Wk.frzN 1 _) ?_;simp [hne, zzA, frzN, frz1, zav, zau, St.frz, St.frzS, frzS, fv, za2, zbn, zbo, frzObS, zat, zan, del, frz, zbL];exact (Wk.zdz (by simp [hn, hi, hi3, hne, Exp.row_eq, Exp.op, Exp.n, Exp.unit, Exp.s, Exp.args] <;> grind))
       ·repeat' (first
  | (refine zi3 (fun nx' h' => hb nx' (by simp at h'; omega)) (by first | (simp [hne, del, zzA, hk0, hk1, c1, c2, c4, zaa, getK, zab, zac, zad, zar]; done) | fail) (by rfl) (by first | assumption | simp) (by rfl) (by simp [D.under, Ob.under]) (by simp) ?_; (try simp [hne, del, zzA, hk0, hk1, c1, c2, c4]))
  | (refine zaf rfl ?_; simp [hne, del, zzA, hk0, hk1, c1, c2, c4])
  | (refine And.intro (by omega) ?_)
  | (refine ⟨hC _ (zb6 [i] nx (by simp <;> omega) (by simp <;> omega) (by apply Exists.intro; apply And.intro; (focus (repeat' (first | exact KF.nil | exact KL.nil | apply KF.cons | apply KL.cons 0 rfl | apply KL.cons 1 rfl | apply KL.cons 2 rfl | apply KL.cons 3 rfl | apply KL.cons 4 rfl | apply KL.cons 5 rfl | apply KL.cons 6 rfl | apply KL.cons 7 rfl | apply KL.cons 8 rfl | apply KL.cons 9 rfl))); kernel_rfl)), hk _ (zdG 8 _ _ _ ?_)⟩; clear hC hk C k; simp [hne, del, zzA, hk0, hk1, c1, c2, c4])
  | (refine zdv rfl (by kernel_rfl) (by first | (simp [hn] <;> omega) | fail) fun C k hC hk => ?_; simp [hne, del, zzA, hk0, hk1, c1, c2, c4])
  | (refine zcB rfl ?_; simp [hne, del, zzA, hk0, hk1, c1, c2, c4])
  | ((first | refine CallP.f2 rfl (hop) (by first | simp [hne, del, zzA, hk0, hk1, c1, c2, c4] <;> rfl | fail) ?_ | refine CallP.f2 rfl (hix) (by first | simp [hne, del, zzA, hk0, hk1, c1, c2, c4] <;> rfl | fail) ?_ | fail); simp [hne, del, zzA, hk0, hk1, c1, c2, c4])
  | fail)
        have hi3 : i < nx + 3 := by omega
        refine LoopW.next ⟨(.mk x.op 0 0 [] [e, e2], x.form, q2, g), g1b, (by show 4 * (l.length - q2) + 2 <= g; omega), (by show g <= f; omega), h3⟩ (by show g < g + 1; omega) ?_
        refine Wk.trans (Wk.frzN 1 _) ?_;simp [hne, zzA, frzN, frz1, zav, zau, St.frz, St.frzS, frzS, fv, za2, zbn, zbo, frzObS, zat, zan, del, frz, zbL];exact (Wk.zdz (by simp [hn, hi, hi3, hne, Exp.row_eq, Exp.op, Exp.n, Exp.unit, Exp.s, Exp.args] <;> grind))
theorem zu0 (s : List UInt8) (l : List Tok) (nx : Nat) (h : zpL s = .ok l) :
  RetX Tryz.prog 62 [.u (.str s)] [] nx (fun r o n => r = .val (.tup [.ptr nx 0, .u (.int .i64 0), .u (.int .i64 0)]) /\ o = [(nx, pOb l 0)] /\ n = nx + 1) := by
 have h1 := zq2 s;rw [h] at h1;simp only [zjP] at h1;refine RetX.runW Tryz.func62 Tryz.ntmps62 rfl (by simp) fun Γ hn hpan => ?_
 repeat' (first
  | (refine zaf rfl ?_; simp)
  | (refine CallP.f2 rfl (h1) (by first | simp <;> rfl | fail) ?_; simp)
  | fail)
 (refine EndW.h Tryz.results62 ?_; simp)
theorem zsX (s : List UInt8) (p : Nat) (e : Int) (nx : Nat) (h : zpL s = .error (p, e)) :
  RetX Tryz.prog 62 [.u (.str s)] [] nx (fun r o n => r = .val (.tup [.ptr nx 0, .u (.int .i64 p), .u (.int .i64 e)]) /\ o = [(nx, pOb [] 0)] /\ n = nx + 1) := by
 have h1 := zq2 s;rw [h] at h1;simp only [zjP] at h1;refine RetX.runW Tryz.func62 Tryz.ntmps62 rfl (by simp) fun Γ hn hpan => ?_
 repeat' (first
  | (refine zaf rfl ?_; simp)
  | (refine CallP.f2 rfl (h1) (by first | simp <;> rfl | fail) ?_; simp)
  | fail)
 (refine EndW.h Tryz.results62 ?_; simp)
theorem zng (i j nx : Nat) (hi : i < nx) (hj : j < nx) (hij : i ≠ j) (p e : Int) :
  RetX Tryz.prog 64 [.u (.oth .nilIface), .ptr i 0, .ptr j 0] [(i, .box [.u (.int .i64 p)]), (j, .box [.u (.int .i64 e)])] nx
   (fun r o n => r = .val (.u (.bool false)) /\ o = [(i, .box [.u (.int .i64 p)]), (j, .box [.u (.int .i64 e)])] /\ n = nx) := by
 have hne := zbm hi;have hne2 := zbm hj;refine RetX.runW Tryz.func64 Tryz.ntmps64 rfl (by simp) fun Γ hn hpan => ?_
 repeat' (first
  | (refine zaf rfl ?_; simp [hne, hne2, hij, Ne.symm hij])
  | fail)
 refine ⟨(true, [.int .i64 0, .int .i64 0]), rfl, ?_⟩;simp [hne, hne2, hij, Ne.symm hij]
 repeat' (first | fail)
 (refine EndW.z ([(i, .box [.u (.int .i64 p)]), (j, .box [.u (.int .i64 e)])]) (N := nx) Tryz.results64 (by simp [hne, hne2, hij, Ne.symm hij, hi, hj] <;> omega) ?_; simp [hne, hne2, hij, Ne.symm hij, hi, hj])
theorem znf (i j nx : Nat) (hi : i < nx) (hj : j < nx) (hij : i ≠ j) (p e pos err : Int) :
  RetX Tryz.prog 64 [.u (.oth (.iface 149 (.agg #[.int .i64 pos, .int .i64 err]))), .ptr i 0, .ptr j 0] [(i, .box [.u (.int .i64 p)]), (j, .box [.u (.int .i64 e)])] nx
   (fun r o n => r = .val (.u (.bool true)) /\ o = [(i, .box [.u (.int .i64 pos)]), (j, .box [.u (.int .i64 err)])] /\ n = nx) := by
 have hne := zbm hi;have hne2 := zbm hj;refine RetX.runW Tryz.func64 Tryz.ntmps64 rfl (by simp) fun Γ hn hpan => ?_
 repeat' (first
  | (refine zaf rfl ?_; simp [hne, hne2, hij, Ne.symm hij])
  | (refine ⟨hC _ (zb6 [i, j] nx (by simp <;> omega) (by simp <;> omega) (by apply Exists.intro; apply And.intro; (focus (repeat' (first | exact KF.nil | exact KL.nil | apply KF.cons | apply KL.cons 0 rfl | apply KL.cons 1 rfl | apply KL.cons 2 rfl | apply KL.cons 3 rfl | apply KL.cons 4 rfl | apply KL.cons 5 rfl | apply KL.cons 6 rfl | apply KL.cons 7 rfl | apply KL.cons 8 rfl | apply KL.cons 9 rfl))); kernel_rfl)), hk _ (zdG 8 _ _ _ ?_)⟩; clear hC hk C k; simp [hne, hne2, hij, Ne.symm hij])
  | (refine zdv rfl (by kernel_rfl) (by first | (simp [hn] <;> omega) | fail) fun C k hC hk => ?_; simp [hne, hne2, hij, Ne.symm hij])
  | fail)
 (refine EndW.z ([(i, .box [.u (.int .i64 pos)]), (j, .box [.u (.int .i64 err)])]) (N := nx) Tryz.results64 (by simp [hne, hne2, hij, Ne.symm hij, hi, hj] <;> omega) ?_; simp [hne, hne2, hij, Ne.symm hij, hi, hj])
end Go.Proofs.YtmlpcgkaonifcaaGreatDoor
namespace Go.Proofs.YtmlpcgkaonifcaaGreatDoor
open Go Go.VL
theorem zuL {l : List Nd} (hg : zfr l = true) : zjv (zgm l) := fun v hv => by
 obtain ⟨_, h3, hn⟩ := (zdJ l).1 hg;obtain ⟨q, hq, rfl⟩ := List.mem_map.1 hv;have h := zqc l 0 (fun x hx m hm => by
  obtain ⟨j, hj⟩ := List.getElem?_of_mem hx;have h5 := hn j x hj;unfold znM at h5;have h6 := List.all_eq_true.1 (Bool.and_eq_true_iff.1 h5).2 m hm;unfold zmr at h6;simp at h6;omega) q hq
 omega
theorem zsS (b : By) (m : Int) (c : List Int) : -4503599627370496 <= (zbp b m c).2.2.1 /\ (zbp b m c).2.2.1 <= 4503599627370496 := by
 unfold zbp;split
 ·simp
 ·rename_i h;have hg := zkl (b := b) (m := m) (c := c) (by simpa using h);have hv := zuL hg;dsimp only;rw [List.getD_eq_getElem?_getD];cases hq : (zgm (zd2 b m c).1)[0]? with
  | none => simp
  | some v => exact hv v (List.mem_of_getElem? hq)
theorem zp6 (s : Nat) : zi7 (s + 1) = zi7 s ++ [(s : Int)] := by simp [zi7, List.range_succ]
theorem ztB (b : By) (m : Int) (s : Nat) (most : Int) (r : Nat) : exG b m s most (r + 1) = if (zbp b m (zi7 s)).2.2.2 ≠ 0 then (0, (zbp b m (zi7 s)).2.2.2) else exG b m (s + 1) (max most (zbp b m (zi7 s)).2.2.1) r := by rw [exG]
theorem zgI (a : Option Addr) (n c : Nat) : (Value.slice a n c).oneCell' = true := rfl
end Go.Proofs.YtmlpcgkaonifcaaGreatDoor
namespace Go.Proofs.YtmlpcgkaonifcaaGreatDoor
open Go Go.VL
attribute [local simp] HS zbu zcZ zcp evPure opd uOf zaA St.put St.at getK binD binI binS binB nilD aggD zfv zf5 lookD lookR zcm rangeS Go.VL.nextD Go.VL.nextS zco zge zgb zfp zcv mkV zbf zaS zaR zaQ zcX zaO za8 zbt mapEff zdD ze5 Key.kk shiftI arith unD convD zdq loadD cellsAt fieldAddrD fieldD indexAddrD indexSlD arrAddr indexD sliceD cutD lenD minmaxD nilCheckD buildD fillD zbY zc2 zev setAll zcT zd9 zci zfs zch St.add zaw zbz rowsOf zdf zcx zad zac zaa zbx zc8 zaZ entry zbM zbQ valD zcl zcw zft zdb zdc zb0 zbK zal zaW zbh delAll effD St.effS zcE zaT zaG zcF zaU zaI zbV zaH zaz zbW zcC zbs zbU za5 zbS zbT zar mkD zcj zbD zbI zal zcr D.ids Op.operands Call.operands zbF makeIfD makeFuncD typeAssertD zf4 zdi zdj zfR zcn IntKind.bits zct zay List.take_of_length_le List.range_succ zcN zcc zcO zcI zbB zb1 zb3 zcJ zb5 zbc zb4 zb2 zg4 zcb zcL zaX zaK zcM zaY zaM zca zaL zaD zcR zcS zgB zab frzN frz1 zav zau St.frz St.frzS frzS fv za2 zbn zbo frzObS zat zan frz zbL zbk zbl zbN zb7 zce za6 St.norm St.lp St.only zax wkE wkO wkU Ob.under D.under zaj zak zcP zcd zcQ h4s zd1 zaC zbC List.zipIdx_cons List.zipIdx_nil zzC zzD Nat.zero_add
attribute [local irreducible] V G H HD HD2 HD4 zg6 RetX zbg Eff CallP CallV EndOK Fun Ret FinOK LoopI LoopW EndW HR vs2 RN Cnd H4
open Df in
theorem zrB (b : By) (m liars : Int) : Fun Tryz.prog 7 [.u (.agg (zaF b)), .u (.int .i64 m), .u (.int .i64 liars)] (· = .tup [.u (.int .i64 (zn6 b m liars).1), .u (.int .i64 (zn6 b m liars).2)]) := by
 have h0 := ze9 b m [] (by simp);have hri := fun h => zfy (b := b) (m := m) (c := []) h;unfold zn6;generalize zeO b m [] = R at *;by_cases hR : R = true /\ 0 <= liars /\ liars <= m
 ·obtain ⟨rfl, hl1, hl2⟩ := hR;obtain ⟨_, _, hm1, hm2⟩ := hri rfl;obtain ⟨Q, rfl⟩ := Int.eq_ofNat_of_zero_le hl1;have hp := fun (s : Nat) (hs : s < 100) => zeP b m (zi7 s) (by rw [znw]; omega);have hpi := fun s => zsS b m (zi7 s);have hc1 := zgX znN m;have hc2 := zfO zs3 0;have hv : Fun Tryz.prog 19 [.u (zgf b m 0), .u (.str zie), .u (zei [⟨znN, 1, m⟩, ⟨zs3, 3, 0⟩])] (· = .tup [.u (.int .i64 (zlM b m).1), .u (.int .i64 (zlM b m).2)]) := zhU b m 0 zie _;have hvi : 0 <= (zlM b m).1 /\ (zlM b m).1 <= 1099511627776 := znu b zie _;generalize zlM b m = HO at *;obtain ⟨hold, he⟩ := HO;simp only at hvi hv ⊢;rw [if_pos ⟨trivial, by omega, hl2⟩, Int.toNat_natCast];have hpr := zeH (x := (Q : Int)) (y := hold) (B := 1099511627776) (C := 60) (by omega) (by omega) (by omega);have hpr0 : 0 <= (Q : Int) * hold := Int.mul_nonneg (by omega) (by omega);obtain ⟨X, hX⟩ : ∃ X, X = exG b m 0 0 (Q + 1) := ⟨_, rfl⟩;rw [<- hX];simp only [zgf, zul, zei, zaF, ints, znN, zs3, zie, List.cons_append, List.nil_append, zzC, zzD] at h0 hp hc1 hc2 hv ⊢;have hl3 : ¬ m < (Q : Int) := by omega
  refine Fun.runW Tryz.func7 Tryz.ntmps7 rfl (by simp) fun Γ hn => ?_
  repeat' (first
  | (refine Cnd.of (fun hc => ?_) (fun hc => ?_) <;> (try (exfalso; omega)) <;> (try simp [hl3]))
  | (refine zaf rfl ?_; simp [hl3])
  | (refine And.intro (by omega) ?_)
  | (refine CallP.f2 rfl (h0) (by first | simp [hl3] <;> rfl | fail) ?_; simp [hl3])
  | fail)
  refine zi1 0 ?_;simp [frzB, zav, zau, St.frzS, frzS, fv, za2, zbn, zbo, frzObS, zat, zan, del];refine zmt _ (Wk.own 9 3 1 (by decide) rfl) ?_;simp [St.own];refine zbZ (α := { s : Nat × Int // s.1 <= Q + 1 /\ (0 <= s.2 /\ s.2 <= 4503599627370496) /\ exG b m s.1 s.2 (Q + 1 - s.1) = X }) [1, 2, 3, 31] (fun s => [(8, .u (.int .i64 s.1.2)), (9, .vec 1 s.1.1), (32, .u (.int .i64 s.1.1))]) (fun s => [(1, .vec 3 1 (intR (zi7 s.1.1)))]) 2 (fun s => Q + 1 - s.1.1) ⟨(0, 0), by omega, by simp, hX.symm⟩ ?_ ?_
  ·exact (Wk.zdz (by simp [hn, zi7, intR] <;> grind))
  rintro ⟨⟨s, most⟩, hsQ, hmo, hsX⟩;simp;simp only at hsQ hmo hsX;have hul := znw s;have hil : (intR (zi7 s)).length = s := by rw [zag, hul]
  by_cases hs : s < Q + 1
  ·have hsi : (s : Int) < Q + 1 := by omega
   have hpe := hp s (by omega);have hpb := hpi s;have hap : intR (zi7 s) ++ [[D.u (.int .i64 (s : Int))]] = intR (zi7 (s + 1)) := by rw [zp6]; simp [intR]
   have htk : (intR (zi7 s)).take s = intR (zi7 s) := List.take_of_length_le (by omega);rw [show Q + 1 - s = (Q + 1 - (s + 1)) + 1 by omega, ztB] at hsX;generalize zbp b m (zi7 s) = PR at hpe hpb hsX;obtain ⟨V, C, bd, pe⟩ := PR;simp only at hpe hpb hsX;by_cases he0 : pe = 0
   ·subst he0;rw [if_neg (by simp)] at hsX
    repeat' (first
  | (refine CallP.zyP (us := [.int .i64 bd, .int .i64 0]) hpe (by first | rfl | fail) (by first | assumption | (simp; done) | fail) (by first | (simp [hil, htk, zcg]; done) | (simp [hil, htk, zcg]; rfl) | fail) (by first | (simp [zbh]; done) | fail) (by first | (simp; done) | fail) (fun a1 n1 c1 a2 n2 c2 => ?_); simp [hil, htk, zcg, zgI])
  | (refine zaf rfl ?_; simp [hs, hsi, hil, htk, zcg, hap, zgI])
  | (refine And.intro (by omega) ?_)
  | fail)
    refine LoopW.next ⟨(s + 1, max most bd), by omega, by simp; omega, hsX⟩ (by simp; omega) ?_
    exact (Wk.ren ((fun i => if i = 1 then 4 else i)) rfl (by first | (simp [hn]; done) | (intro i hi; rw [hn] at hi; constructor <;> (try simp) <;> (try (intro _)) <;> omega)) (by simp [zi6, St.lp, zax, zaa, getK, zac, zad, D.under, D.le, D.ren, hap, zam, zai] <;> (try (intros; simp_all; done)) <;> (try omega)) (by simp [wkR, St.lp, zaa, getK, zac, zad, obR, leU, zcu, za7, Ob.under, D.under, D.le, D.ren, hap, zam, zai] <;> (try (intros; simp_all; done)) <;> (try omega)) (by simp [hap, zam, zai]))
   ·rw [if_pos he0] at hsX
    repeat' (first
  | (refine CallP.zyP (us := [.int .i64 bd, .int .i64 pe]) hpe (by first | rfl | fail) (by first | assumption | (simp; done) | fail) (by first | (simp [hil, htk, zcg]; done) | (simp [hil, htk, zcg]; rfl) | fail) (by first | (simp [zbh]; done) | fail) (by first | (simp; done) | fail) (fun a1 n1 c1 a2 n2 c2 => ?_); simp [hil, htk, zcg, he0, zgI])
  | (refine zaf rfl ?_; simp [hs, hsi, hil, htk, zcg, he0, zgI])
  | fail)
    refine EndW.norm (EndW.here ?_)
    (refine EndOK.val (.inr rfl) ?_; simp [Tryz.results7])
    all_goals simp [<- hsX, he0]
  ·obtain rfl : s = Q + 1 := by omega
   rw [Nat.sub_self, exG] at hsX;have hsi : ¬ ((Q : Int) + 1 < Q + 1) := Int.lt_irrefl _;by_cases hh0 : he = 0
   ·subst hh0
    repeat' (first
  | (refine zaf rfl ?_; simp [hs, hsi])
  | (refine And.intro (by omega) ?_)
  | (refine ⟨hC _ (by kernel_rfl), hk _ (zdG 8 _ _ _ ?_)⟩; clear hC hk C k; simp [hs, hsi])
  | (refine zdv rfl (by kernel_rfl) (by first | (simp [hn] <;> omega) | fail) fun C k hC hk => ?_; simp [hs, hsi])
  | (refine zcB rfl ?_; simp [hs, hsi])
  | (refine zbP rfl ?_; simp [hs, hsi])
  | ((first | refine CallV.f2 rfl (hc1) (by first | simp [hs, hsi] <;> rfl | fail) ?_ | refine CallV.f2 rfl (hc2) (by first | simp [hs, hsi] <;> rfl | fail) ?_ | refine CallV.f2 rfl (hv) (by first | simp [hs, hsi] <;> rfl | fail) ?_ | fail); simp [hs, hsi])
  | fail)
    refine EndW.norm (EndW.here ?_)
    (refine EndOK.val (.inr rfl) ?_; simp [Tryz.results7])
    all_goals simp [<- hsX]
   ·repeat' (first
  | (refine zaf rfl ?_; simp [hs, hsi, hh0])
  | (refine ⟨hC _ (by kernel_rfl), hk _ (zdG 8 _ _ _ ?_)⟩; clear hC hk C k; simp [hs, hsi, hh0])
  | (refine zdv rfl (by kernel_rfl) (by first | (simp [hn] <;> omega) | fail) fun C k hC hk => ?_; simp [hs, hsi, hh0])
  | (refine zcB rfl ?_; simp [hs, hsi, hh0])
  | (refine zbP rfl ?_; simp [hs, hsi, hh0])
  | ((first | refine CallV.f2 rfl (hc1) (by first | simp [hs, hsi, hh0] <;> rfl | fail) ?_ | refine CallV.f2 rfl (hc2) (by first | simp [hs, hsi, hh0] <;> rfl | fail) ?_ | refine CallV.f2 rfl (hv) (by first | simp [hs, hsi, hh0] <;> rfl | fail) ?_ | fail); simp [hs, hsi, hh0])
  | fail)
    refine EndW.norm (EndW.here ?_)
    (refine EndOK.val (.inr rfl) ?_; simp [Tryz.results7])
    all_goals simp [<- hsX, hh0]
 ·rw [if_neg hR];simp only [zaF, ints, zzD] at h0 ⊢;cases R with
  | false =>
   refine Fun.runW Tryz.func7 Tryz.ntmps7 rfl (by simp) fun Γ hn => ?_
   repeat' (first
  | (refine zaf rfl ?_; simp)
  | (refine CallP.f2 rfl (h0) (by first | simp <;> rfl | fail) ?_; simp)
  | fail)
   refine EndW.norm (EndW.here ?_)
   (refine EndOK.val (.inr rfl) ?_; simp [Tryz.results7])
  | true =>
   by_cases hl1 : liars < 0
   ·refine Fun.runW Tryz.func7 Tryz.ntmps7 rfl (by simp) fun Γ hn => ?_
    repeat' (first
  | (refine zaf rfl ?_; simp [hl1])
  | (refine CallP.f2 rfl (h0) (by first | simp [hl1] <;> rfl | fail) ?_; simp [hl1])
  | fail)
    refine EndW.norm (EndW.here ?_)
    (refine EndOK.val (.inr rfl) ?_; simp [Tryz.results7])
   ·have hl2 : m < liars := by have : ¬ (0 <= liars /\ liars <= m) := fun h => hR ⟨rfl, h⟩; omega
    refine Fun.runW Tryz.func7 Tryz.ntmps7 rfl (by simp) fun Γ hn => ?_
    repeat' (first
  | (refine zaf rfl ?_; simp [hl1, hl2])
  | (refine CallP.f2 rfl (h0) (by first | simp [hl1, hl2] <;> rfl | fail) ?_; simp [hl1, hl2])
  | fail)
    refine EndW.norm (EndW.here ?_)
    (refine EndOK.val (.inr rfl) ?_; simp [Tryz.results7])
end Go.Proofs.YtmlpcgkaonifcaaGreatDoor
namespace Go.VL
open Go
theorem zwP {P : Program} {Γ : Ctx} {c : Code} {s : St} {Q : Exit -> St -> Prop} {x j : Nat} {cells : List U} {rows : List (List U)} (hx : getK s.env x = some (.u (.agg cells))) (hj : cells[j]? = some (.sl rows)) (h : rows.length <= 9223372036854775807 -> V P Γ c s Q) : V P Γ c s Q :=
 zsf (fun K a w hs => by
  have hr := (hs.getK hx).2;obtain ⟨vs, hl, _, hr⟩ := zec hr;have hr := hr j _ hj;generalize vs.getD j undef = v at hr;cases hr with
  | slE => simp
  | sl _ b o sz c f hc hcx => unfold maxLen at hcx; omega) h
end Go.VL
namespace Go.Proofs.YtmlpcgkaonifcaaGreatDoor
open Go Go.VL
attribute [local simp] zbu zcZ zcp evPure opd uOf zaA St.put St.at getK binD binI binS binB nilD aggD zfv zf5 lookD lookR zcm rangeS Go.VL.nextD Go.VL.nextS zco zge zgb zfp zcv mkV zbf zaS zaR zaQ zcX zaO za8 zbt mapEff zdD ze5 Key.kk shiftI arith unD convD zdq loadD cellsAt fieldAddrD fieldD indexAddrD indexSlD arrAddr indexD sliceD cutD lenD minmaxD nilCheckD buildD fillD zbY zc2 zev setAll zcT zd9 zci zfs zch St.add zaw zbz rowsOf zdf zcx zad zac zaa zbx zc8 zaZ entry zbM zbQ valD zcl zcw zft zdb zdc zb0 zbK zal zaW zbh delAll effD St.effS zcE zaT zaG zcF zaU zaI zbV zaH zaz zbW zcC zbs zbU za5 zbS zbT zar mkD zcj zbD zbI zal zcr D.ids Op.operands Call.operands zbF makeIfD makeFuncD typeAssertD zf4 zdi zdj zfR zcn IntKind.bits zct zay List.take_of_length_le List.range_succ zcN zcc zcO zcI zbB zb1 zb3 zcJ zb5 zbc zb4 zb2 zg4 zcb zcL zaX zaK zcM zaY zaM zca zaL zaD zcR zcS zgB zab frzN frz1 zav zau St.frz St.frzS frzS fv za2 zbn zbo frzObS zat zan frz zbL zbk zbl zbN zb7 zce za6 St.norm St.lp St.only zax wkE wkO wkU Ob.under D.under zaj zak zcP zcd zcQ h4s zd1 zaC zbC List.zipIdx_cons List.zipIdx_nil zzC zzD Nat.zero_add
attribute [local irreducible] V G H HD HD2 zbg Eff CallP CallV EndOK Fun Ret FinOK LoopI LoopW EndW HR vs2 RN Cnd H4
theorem zqw {l : List Tok} (hl : TokOK l) : ∀ f, zhS l f /\ zvX l f /\ zj5 l f := by
 intro f
 induction f using Nat.strongRecOn with
 | _ f ih =>
  cases f with
  | zero => exact ⟨fun p form i nx _ _ h => by omega, fun p form i nx _ _ h => by omega, fun p i nx _ _ h => by omega⟩
  | succ f =>
   obtain ⟨h1, h2, h3⟩ := ih f (by omega);exact ⟨ztz hl (fun g hg => (ih g (by omega)).1) h2, zmN hl h1 h3, zlk hl h1⟩
def Exp.lev : Exp -> Int
 | .mk _ _ _ _ args => (args.map fun e => e.lev).foldl max 0 + 1
theorem Exp.zi5 (e : Exp) : e.lev = (e.args.map Exp.lev).foldl max 0 + 1 := by
 cases e with
 | mk op n u s args => rw [Exp.lev]; rfl
theorem zds : ∀ (l : List Int) (a : Int), a <= l.foldl max a /\ ∀ x ∈ l, x <= l.foldl max a
 | [], a => ⟨by simp, fun x h => by simp at h⟩
 | b :: l, a => by
  obtain ⟨h1, h2⟩ := zds l (max a b);refine ⟨by simp only [List.foldl_cons]; omega, fun x hx => ?_⟩;rcases List.mem_cons.1 hx with rfl | hx
  ·simp only [List.foldl_cons]; omega
  ·exact h2 x hx
theorem Exp.lev_pos (e : Exp) : 1 <= e.lev := by
 rw [Exp.zi5];have := (zds (e.args.map Exp.lev) 0).1;omega
theorem Exp.znr {e x : Exp} (h : x ∈ e.args) : SizeOf.sizeOf x < SizeOf.sizeOf e := by
 cases e with
 | mk op n u s args =>
  have := List.sizeOf_lt_of_mem h;simp only [Exp.args] at this;simp only [Exp.mk.sizeOf_spec];omega
theorem zoV : ∀ (n : Nat) (e : Exp), SizeOf.sizeOf e <= n -> e.lev <= 1000000000 -> Fun Tryz.prog 120 [.u (.agg e.row)] (· = .u (.int .i64 e.lev)) := by
 intro n
 induction n with
 | zero =>
  intro e h;cases e with
  | mk op n u s args => simp only [Exp.mk.sizeOf_spec] at h; omega
 | succ n ih =>
  intro e hs he;have hx : ∀ x ∈ e.args, Fun Tryz.prog 120 [.u (.agg [.int .i64 x.op, .int .i64 x.n, .int .i64 x.unit, .str x.s, .sl (x.args.map Exp.row)])] (· = .u (.int .i64 x.lev)) := fun x hx => by
   rw [<- Exp.row_eq];refine ih x (by have := Exp.znr hx; omega) ?_;have := (zds (e.args.map Exp.lev) 0).2 x.lev (List.mem_map.2 ⟨x, hx, rfl⟩);rw [Exp.zi5] at he;omega
  have hlb : ∀ k, ((e.args.map Exp.lev).take k).foldl max 0 <= 1000000000 := fun k => by
   rw [<- List.map_take];rw [Exp.zi5] at he;have h2 : (e.args.map Exp.lev).foldl max 0 = (e.args.drop k |>.map Exp.lev).foldl max ((e.args.take k |>.map Exp.lev).foldl max 0) := by
    rw [<- List.foldl_append, <- List.map_append, List.take_append_drop]
   have := (zds (e.args.drop k |>.map Exp.lev) ((e.args.take k |>.map Exp.lev).foldl max 0)).1;omega
  rw [Exp.row_eq, Exp.zi5];generalize hA : e.args = A at *;rw [Exp.zi5, hA] at he;refine Fun.run Tryz.func120 Tryz.ntmps120 Tryz.results120 rfl (by simp) fun Γ hn => ?_; simp only [zzE, zzC, zzD];refine zwP (x := 0) (j := 4) rfl rfl fun hl => ?_;simp at hl
  repeat' (first
  | (refine zaf rfl ?_; simp)
  | fail)
  refine zc7 (α := { k : Nat // k <= A.length }) [0, 1, 2, 7, 8] (fun k => [(9, .u (.int .i64 k.1)), (3, .u (.int .i64 (((A.map Exp.lev).take k.1).foldl max 0)))]) (fun k => A.length - k.1) ⟨0, by omega⟩ ?_ ?_
  ·exact (Wk.env rfl rfl rfl (by simp [wkE, St.lp, zax, zaa, getK] <;> (try (intros; simp_all; done)) <;> (try (intros; omega)) <;> (try grind)))
  rintro ⟨k, hk⟩;simp;rcases hy : A[k]? with _ | y
  ·have hge : A.length <= k := by simpa using hy
   have hb := hlb k;rw [List.take_of_length_le (by simpa using hge : (A.map Exp.lev).length <= k)] at hb ⊢;have hb0 := (zds (A.map Exp.lev) 0).1;generalize (A.map Exp.lev).foldl max 0 = M at *
   repeat' (first
  | (refine Cnd.of (fun hc => ?_) (fun hc => ?_) <;> (try (exfalso; omega)) <;> (try simp [hy]))
  | (refine zaf rfl ?_; simp [hy])
  | (refine And.intro (by omega) ?_)
  | fail)
   (refine Pst.of ?_; simp)
  ·have hlt : k < A.length := (List.getElem?_eq_some_iff.1 hy).1;have hfn := hx y (List.mem_of_getElem? hy);have ht : ((A.map Exp.lev).take (k + 1)).foldl max 0 = max (((A.map Exp.lev).take k).foldl max 0) y.lev := by
    rw [List.take_add_one, List.getElem?_map, hy];simp
   have hb := hlb (k + 1);rw [ht] at hb;have hb0 := (zds ((A.map Exp.lev).take k) 0).1;generalize hM : ((A.map Exp.lev).take k).foldl max 0 = M at *;have hyp := y.lev_pos
   repeat' (first
  | (refine Cnd.of (fun hc => ?_) (fun hc => ?_) <;> (try (exfalso; omega)) <;> (try simp [hy, Exp.row_eq]))
  | (refine zaf rfl ?_; simp [hy, Exp.row_eq])
  | (refine And.intro (by omega) ?_)
  | (refine CallP.f2 rfl (hfn) (by first | simp [hy, Exp.row_eq] <;> rfl | fail) ?_; simp [hy, Exp.row_eq])
  | fail)
   refine LoopW.next ⟨k + 1, hlt⟩ (by show A.length - (k + 1) < A.length - k; omega) ?_
   exact (Wk.zdz (by simp [hn, ht] <;> grind))
end Go.Proofs.YtmlpcgkaonifcaaGreatDoor
namespace Go.Proofs.YtmlpcgkaonifcaaGreatDoor
open Go Go.VL
def zv7 (l : List Tok) (p : Nat) (least most : Int) : PR Int := match l[p]? with
 | none => .stop 0 0
 | some t => if t.kind = 2 then if least <= t.n /\ t.n <= most then .ok t.n (p + 1) else .stop t.pos 3 else .stop t.pos 12
def zeQ (l : List Tok) (p : Nat) (word : W8) (least most : Int) (behind : List W8) : PR Int :=
 if isB l p word = true then (zv7 l (p + 1) least most).bind fun n q => (zcV l q behind).bind fun _ r => .ok n r else .ok 0 p
def zfn (l : List Tok) (p : Nat) : PR Exp := (zfu l (4 * l.length + 3) p 0).bind fun e q =>
 if isB l q [59] = true then if e.lev <= 12 then .ok e (q + 1) else .stop (zel l q) 6 else .stop (zel l q) 12
def zm1 (l : List Tok) (p : Nat) : PR (Int × Bool) := (zcV l p [[99, 105, 114, 99, 108, 101]]).bind fun _ q =>
 if isB l q [114, 111, 116, 97, 116, 105, 110, 103] = true then (zcV l (q + 1) [[59]]).bind fun _ r => .ok (0, false) r
 else if isB l q [115, 97, 118, 105, 110, 103] = true then (zcV l (q + 1) [[59]]).bind fun _ r => .ok (2, false) r
 else (zcV l q [[98, 105, 100, 100, 105, 110, 103]]).bind fun _ r => if isB l r [115, 101, 97, 108, 101, 100] = true then (zcV l (r + 1) [[59]]).bind fun _ r => .ok (1, true) r else (zcV l r [[59]]).bind fun _ r => .ok (1, false) r
def ordersW : List W8 := [[106, 111, 105, 110], [100, 114, 97, 119], [110, 101, 101, 100]]
def zim (l : List Tok) (p : Nat) : PR Int :=
 if isB l p [111, 114, 100, 101, 114] = true then match ordersW.findIdx? fun w => isB l (p + 1) w with
  | some i => (zcV l (p + 2) [[59]]).bind fun _ r => .ok i r
  | none => .stop (zel l (p + 1)) 12
 else .ok 0 p
def ziB (l : List Tok) : Nat -> Nat -> List Let -> PR (List Let)
 | 0, _, _ => .stop 0 0
 | f + 1, p, acc => if isB l p [108, 101, 116] = true then
   if acc.length < 20 then match l[p + 1]? with
    | none => .stop 0 0
    | some t => if t.kind = 1 ∧ zfc t.text = true then
          if (acc.any fun x => decide (x.name = t.text)) = true then .stop t.pos 5
          else (zcV l (p + 2) [[61]]).bind fun _ q => (zfn l q).bind fun e r => ziB l f r (acc ++ [⟨t.text, e⟩])
     else .stop t.pos 12
   else .stop (zel l p) 6
  else .ok acc p
def nothingE : Exp := .mk 0 0 3 [] []
def zeL (l : List Tok) (p : Nat) (word : W8) : PR Exp := if isB l p word = true then zfn l (p + 1) else .ok nothingE p
def zmU (l : List Tok) (p : Nat) (word : W8) : PR Unit := if isB l p word = true then .ok () p else .stop (zel l p) 12
def zvu (l : List Tok) (p : Nat) : PR Unit := match l[p]? with | some t => if t.kind = 0 then .ok () p else .stop t.pos 12 | none => .stop 0 0
def zvM (l : List Tok) : PR By :=
 (zm1 l 0).bind fun k p => (zmU l p [112, 101, 114, 105, 111, 100]).bind fun _ p => (zeQ l p [112, 101, 114, 105, 111, 100] 1 1000 [[100, 97, 121, 115], [59]]).bind fun period p =>
 (zmU l p [108, 97, 115, 116]).bind fun _ p => (zeQ l p [108, 97, 115, 116] 1 1000 [[59]]).bind fun last p =>
 (zeQ l p [103, 114, 97, 99, 101] 0 1000 [[100, 97, 121, 115], [59]]).bind fun grace p => (zeQ l p [119, 97, 105, 116] 0 1000 [[100, 97, 121, 115], [59]]).bind fun wait p =>
 (zim l p).bind fun order p => (zeQ l p [98, 97, 99, 107, 115] 0 60 [[59]]).bind fun backs p => (zeQ l p [118, 111, 105, 99, 101, 115] 0 1000 [[112, 101, 114], [109, 105, 108, 108, 101], [59]]).bind fun voices p =>
 (zeQ l p [106, 117, 114, 121] 0 60 [[59]]).bind fun jury p => (zeQ l p [102, 117, 110, 100] 0 1000 [[112, 101, 114], [109, 105, 108, 108, 101], [59]]).bind fun fund p =>
 (ziB l 21 p []).bind fun lets p => (zcV l p [[100, 117, 101]]).bind fun _ p => (zfn l p).bind fun due p =>
 (zeL l p [102, 105, 110, 101]).bind fun fine p => (zeL l p [112, 97, 121]).bind fun pay p => (zeL l p [99, 111, 118, 101, 114]).bind fun cover p => (zeL l p [104, 111, 108, 100]).bind fun hold p =>
 (zvu l p).bind fun _ p => .ok ⟨k.1, period, grace, wait, last, order, k.2, backs, voices, jury, fund, lets, due, fine, pay, cover, hold⟩ p
def StopAt (l : List Tok) (p : Nat) (S : List W8) : Prop := ∀ v, v ∉ S -> isB l p v = false
theorem StopAt.head {l p} {w : W8} {b : List W8} (h : Reads l p (w :: b)) : StopAt l p [w] := fun v hv => by
 rw [h.isB]; exact decide_eq_false fun e => hv (by simp [e])
end Go.Proofs.YtmlpcgkaonifcaaGreatDoor
namespace Go.Proofs.YtmlpcgkaonifcaaGreatDoor
open Go Go.VL
attribute [local simp] HS zbu zcZ zcp evPure opd uOf zaA St.put St.at getK binD binI binS binB nilD aggD zfv zf5 lookD lookR zcm rangeS Go.VL.nextD Go.VL.nextS zco zge zgb zfp zcv mkV zbf zaS zaR zaQ zcX zaO za8 zbt mapEff zdD ze5 Key.kk shiftI arith unD convD zdq loadD cellsAt fieldAddrD fieldD indexAddrD indexSlD arrAddr indexD sliceD cutD lenD minmaxD nilCheckD buildD fillD zbY zc2 zev setAll zcT zd9 zci zfs zch St.add zaw zbz rowsOf zdf zcx zad zac zaa zbx zc8 zaZ entry zbM zbQ valD zcl zcw zft zdb zdc zb0 zbK zal zaW zbh delAll effD St.effS zcE zaT zaG zcF zaU zaI zbV zaH zaz zbW zcC zbs zbU za5 zbS zbT zar mkD zcj zbD zbI zal zcr D.ids Op.operands Call.operands zbF makeIfD makeFuncD typeAssertD zf4 zdi zdj zfR zcn IntKind.bits zct zay List.take_of_length_le List.range_succ zcN zcc zcO zcI zbB zb1 zb3 zcJ zb5 zbc zb4 zb2 zg4 zcb zcL zaX zaK zcM zaY zaM zca zaL zaD zcR zcS zgB zab frzN frz1 zav zau St.frz St.frzS frzS fv za2 zbn zbo frzObS zat zan frz zbL zbk zbl zbN zb7 zce za6 St.norm St.lp St.only zax wkE wkO wkU Ob.under D.under zaj zak zcP zcd zcQ h4s zd1 zaC zbC List.zipIdx_cons List.zipIdx_nil zzC zzD Nat.zero_add
attribute [local irreducible] V G H HD HD2 HD4 zg6 RetX zbg Eff CallP CallV EndOK Fun Ret FinOK LoopI LoopW EndW HR vs2 RN Cnd H4
theorem zq3 {s : List UInt8} : ∀ (f p : Nat) (l : List Tok), zq4 f s p = .ok l -> s.length < p + f -> p <= s.length ->
  (∀ (i : Nat) (t : Tok), l[i]? = some t -> t.kind ≠ 0 -> i + 1 < l.length) /\ l.length <= s.length - p + 1 /\ 0 < l.length
 | 0, p, l, _, h2, h3 => by omega
 | f + 1, p, l, h, h2, h3 => by
  rw [zq4] at h;have hle := zez zc4 (s.drop p);rw [List.length_drop] at hle;split at h
  ·cases h;refine ⟨fun i t hi hk => ?_, by simp, by simp⟩;rcases i with _ | i
   ·simp at hi;subst hi;exact absurd rfl hk
   ·simp at hi
  ·rename_i c r hd;have hdl : (s.drop (p + zdu zc4 (s.drop p))).length = r.length + 1 := by rw [hd]; rfl
   rw [List.length_drop] at hdl;split at h
   ·cases h
   ·rename_i t ht;obtain ⟨ht1, ht2⟩ := zhl ht;simp only [List.length_cons] at ht2;split at h
    ·cases h
    ·rename_i l' hl';cases h;obtain ⟨g1, g2, g3⟩ := zq3 f _ l' hl' (by omega) (by omega);refine ⟨fun i t' hi hk => ?_, by simp only [List.length_cons]; omega, by simp⟩;rcases i with _ | i
     ·simp; exact g3
     ·simp only [List.getElem?_cons_succ] at hi;have := g1 i t' hi hk;simp only [List.length_cons];omega
theorem zvb {s : List UInt8} {l : List Tok} (h : zpL s = .ok l) : TokOK l /\ l.length <= 2001 /\ 0 < l.length := by
 unfold zpL at h;split at h
 ·cases h
 ·obtain ⟨g1, g2, g3⟩ := zq3 _ _ _ h (by omega) (by omega);exact ⟨⟨g1, by omega⟩, by omega, g3⟩
theorem Exp.zmn {op n u : Int} {s : List UInt8} {args : List Exp} {B : Int} (h : ∀ x ∈ args, x.lev <= B) (h0 : 0 <= B) : (Exp.mk op n u s args).lev <= B + 1 := by
 rw [Exp.zi5];simp only [Exp.args];have : ∀ (l : List Int) (a : Int), a <= B -> (∀ x ∈ l, x <= B) -> l.foldl max a <= B := by
  intro l
  induction l with
  | nil => intro a ha _; exact ha
  | cons b l ih => intro a ha hl; exact ih _ (by have := hl b (by simp); omega) fun x hx => hl x (by simp [hx])
 have := this (args.map Exp.lev) 0 h0 (fun x hx => by obtain ⟨y, hy, rfl⟩ := List.mem_map.1 hx; exact h y hy);omega
theorem zlq {l : List Tok} : ∀ (f : Nat),
  (∀ p form e q, zfu l f p form = .ok e q -> e.lev <= f * f + 1) /\
  (∀ form e own p e' q, zgd l f form e own p = .ok e' q -> e'.lev <= max e.lev (f * f + 1) + f) /\
  (∀ p form e q, zcy l f p form = .ok e q -> e.1.lev <= f * f + 1) /\
  (∀ p e q, zbG l f p = .ok e q -> e.lev <= f * f + 1)
 | 0 => ⟨fun _ _ _ _ h => by simp [zfu] at h, fun _ _ _ _ _ _ h => by simp [zgd] at h, fun _ _ _ _ h => by simp [zcy] at h, fun _ _ _ h => by simp [zbG] at h⟩
 | f + 1 => by
  obtain ⟨he, hlo, hpr, hpm⟩ := zlq f;have hsq : ((f + 1 : Nat) : Int) * ((f + 1 : Nat) : Int) = (f : Int) * f + 2 * f + 1 := by
   rw [show ((f + 1 : Nat) : Int) = (f : Int) + 1 by omega, Int.add_mul, Int.mul_add]; omega
  rw [hsq];have h0 : (0 : Int) <= (f : Int) * f := Int.mul_nonneg (by omega) (by omega);generalize hF : (f : Int) * f = F at *;refine ⟨fun p form e q h => ?_, fun form e own p e' q h => ?_, fun p form e q h => ?_, fun p e q h => ?_⟩
  ·rw [zfu] at h;obtain ⟨a, r, h1, h2⟩ := PR.zaP h;have g1 := hpr _ _ _ _ h1;have g2 := hlo _ _ _ _ _ _ h2;omega
  ·rw [zgd] at h;split at h
   ·cases h; omega
   ·split at h
    ·cases h; omega
    ·obtain ⟨a, r, h1, h2⟩ := PR.zaP h;have g1 := he _ _ _ _ h1;have g2 := hlo _ _ _ _ _ _ h2;rename_i x _ _;have g3 := Exp.zmn (op := x.op) (n := 0) (u := 0) (s := []) (args := [e, a]) (B := max e.lev (F + 1)) (by
      intro y hy;simp only [List.mem_cons, List.not_mem_nil, or_false] at hy;rcases hy with rfl | rfl <;> omega) (by omega)
     omega
  ·rw [zcy] at h;split at h
   ·obtain ⟨a, r, h1, h⟩ := PR.zaP h;obtain ⟨_, r2, h2, h⟩ := PR.zaP h;obtain ⟨b, r3, h3, h⟩ := PR.zaP h;obtain ⟨_, r4, h4, h⟩ := PR.zaP h;obtain ⟨c, r5, h5, h⟩ := PR.zaP h;cases h;have g1 := he _ _ _ _ h1;have g3 := he _ _ _ _ h3;have g5 := he _ _ _ _ h5;have := Exp.zmn (op := 13) (n := 0) (u := 0) (s := []) (args := [a, b, c]) (B := F + 1) (by
     intro y hy;simp only [List.mem_cons, List.not_mem_nil, or_false] at hy;rcases hy with rfl | rfl | rfl <;> omega) (by omega)
    simp only;omega
   ·split at h
    ·obtain ⟨a, r, h1, h⟩ := PR.zaP h;cases h;have g1 := he _ _ _ _ h1;have := Exp.zmn (op := 12) (n := 0) (u := 0) (s := []) (args := [a]) (B := F + 1) (by
      intro y hy;simp only [List.mem_cons, List.not_mem_nil, or_false] at hy;rcases hy with rfl; omega) (by omega)
     simp only;omega
    ·obtain ⟨a, r, h1, h⟩ := PR.zaP h;cases h;have g1 := hpm _ _ _ h1;simp only;omega
  ·have leaf : ∀ (op n u : Int) (s : List UInt8), (Exp.mk op n u s []).lev <= F + 2 * f + 1 + 1 := fun op n u s => by
    have := Exp.zmn (op := op) (n := n) (u := u) (s := s) (args := []) (B := 0) (by simp) (by omega);omega
   rw [zbG] at h;split at h
   ·cases h
   ·split at h
    ·obtain ⟨a, r, h1, h⟩ := PR.zaP h;cases h; exact leaf ..
    split at h
    ·cases h; exact leaf ..
    split at h
    ·cases h; exact leaf ..
    split at h
    ·obtain ⟨_, r2, h2, h⟩ := PR.zaP h;obtain ⟨a, r3, h3, h⟩ := PR.zaP h;obtain ⟨_, r4, h4, h⟩ := PR.zaP h;obtain ⟨b, r5, h5, h⟩ := PR.zaP h;obtain ⟨_, r6, h6, h⟩ := PR.zaP h;have g3 := he _ _ _ _ h3;have g5 := he _ _ _ _ h5;have := Exp.zmn (op := if isB l p [109, 97, 120] = true then 7 else 6) (n := 0) (u := 0) (s := []) (args := [a, b]) (B := F + 1) (by
      intro y hy;simp only [List.mem_cons, List.not_mem_nil, or_false] at hy;rcases hy with rfl | rfl <;> omega) (by omega)
     cases h;omega
    split at h
    ·obtain ⟨a, r3, h3, h⟩ := PR.zaP h;obtain ⟨_, r4, h4, h⟩ := PR.zaP h;cases h;have g3 := he _ _ _ _ h3;omega
    split at h
    ·cases h; exact leaf ..
    ·cases h
def zwr (l : List Tok) (p : Nat) : Int := match l[p]? with | some t => t.kind | none => 0
def zh5 : Exp := .mk 0 0 0 [] []
theorem zoM (l : List Tok) (p : Nat) (a b : Int) (i nx : Nat) (hi : i < nx) (hp : p < l.length) (hl : TokOK l) :
  RetX Tryz.prog 116 [.ptr i 0, zkv a, zkv b] [(i, pOb l p)] nx (PPost l i nx zkv (zv7 l p a b)) := by
 have hne := zbm hi;obtain ⟨t, ht⟩ : ∃ t, l[p]? = some t := ⟨_, List.getElem?_eq_getElem hp⟩;have hnx := zdk l p t ht hl.len;have hll := hl.len;have hc1 := fun e nx' (h : nx <= nx') => zf8 l p e i nx' (by omega);have hc2 := fun e nx' (h : nx <= nx') => zeq l p t e i nx' (by omega) ht hl.len;rw [zv7, ht];by_cases hk2 : t.kind = 2
 ·simp only [hk2, if_true];by_cases h1 : a <= t.n
  ·by_cases h2 : t.n <= b
   ·simp only [h1, h2, and_self, if_true];refine RetX.runW Tryz.func116 Tryz.ntmps116 rfl (by simp) fun Γ hn hpan => ?_
    repeat' (first
  | (refine zaf rfl ?_; simp [hne, hk2, h1, h2, del])
  | (refine And.intro (by omega) ?_)
  | (refine CallP.f2 rfl (hnx) (by first | simp [hne, hk2, h1, h2, del] <;> rfl | fail) ?_; simp [hne, hk2, h1, h2, del])
  | (refine CallP.ok1 (hc1 _ _ (by first | omega | (simp <;> omega) | fail)) (by first | (simp [hne, hk2, h1, h2, del, zaa, getK, zab, zac]; done) | fail) (by rfl) (by first | assumption | (simp; done) | fail) (by rfl) (by simp) ?_; (try simp [hne, hk2, h1, h2, del]))
  | fail)
    (refine EndW.z ([(i, pOb l (p + 1))]) (N := nx) Tryz.results116 (by simp [hne, hi] <;> omega) ?_; simp [hne, hi])
    exact PPost.zdw rfl rfl rfl
   ·simp only [h1, h2, and_false, if_false];refine RetX.runW Tryz.func116 Tryz.ntmps116 rfl (by simp) fun Γ hn hpan => ?_
    repeat' (first
  | (refine zaf rfl ?_; simp [hne, hk2, h1, h2, del])
  | (refine CallP.f2 rfl (hnx) (by first | simp [hne, hk2, h1, h2, del] <;> rfl | fail) ?_; simp [hne, hk2, h1, h2, del])
  | (refine CallP.ok1 (hc1 _ _ (by first | omega | (simp <;> omega) | fail)) (by first | (simp [hne, hk2, h1, h2, del, zaa, getK, zab, zac]; done) | fail) (by rfl) (by first | assumption | (simp; done) | fail) (by rfl) (by simp) ?_; (try simp [hne, hk2, h1, h2, del]))
  | (refine CallP.zgg (hc2 _ _ (by first | omega | (simp <;> omega) | fail)) (by first | (simp [hne, hk2, h1, h2, del, zaa, getK, zab, zac]; done) | fail) (by rfl) (by first | assumption | (simp; done) | fail) (by rfl) (by simp) ?_; rintro ob' ⟨q', rfl⟩; refine ⟨_, Wk.refl _, ?_⟩)
  | fail)
    (refine hpan _ _ (PanG.k ([(i, pOb l q')]) (nx) (by simp [hn, hi, hne, zab, zac, zaa, getK] <;> omega) ?_); try simp)
    exact PPost.zbe (by simp [PR.bind, *])
  ·simp only [h1, false_and, if_false];refine RetX.runW Tryz.func116 Tryz.ntmps116 rfl (by simp) fun Γ hn hpan => ?_
   repeat' (first
  | (refine zaf rfl ?_; simp [hne, hk2, h1, del])
  | (refine CallP.f2 rfl (hnx) (by first | simp [hne, hk2, h1, del] <;> rfl | fail) ?_; simp [hne, hk2, h1, del])
  | (refine CallP.ok1 (hc1 _ _ (by first | omega | (simp <;> omega) | fail)) (by first | (simp [hne, hk2, h1, del, zaa, getK, zab, zac]; done) | fail) (by rfl) (by first | assumption | (simp; done) | fail) (by rfl) (by simp) ?_; (try simp [hne, hk2, h1, del]))
  | (refine CallP.zgg (hc2 _ _ (by first | omega | (simp <;> omega) | fail)) (by first | (simp [hne, hk2, h1, del, zaa, getK, zab, zac]; done) | fail) (by rfl) (by first | assumption | (simp; done) | fail) (by rfl) (by simp) ?_; rintro ob' ⟨q', rfl⟩; refine ⟨_, Wk.refl _, ?_⟩)
  | fail)
   (refine hpan _ _ (PanG.k ([(i, pOb l q')]) (nx) (by simp [hn, hi, hne, zab, zac, zaa, getK] <;> omega) ?_); try simp)
   exact PPost.zbe (by simp [PR.bind, *])
 ·simp only [hk2, if_false];refine RetX.runW Tryz.func116 Tryz.ntmps116 rfl (by simp) fun Γ hn hpan => ?_
  repeat' (first
  | (refine zaf rfl ?_; simp [hne, hk2, del])
  | (refine CallP.f2 rfl (hnx) (by first | simp [hne, hk2, del] <;> rfl | fail) ?_; simp [hne, hk2, del])
  | (refine CallP.zgg (hc2 _ _ (by first | omega | (simp <;> omega) | fail)) (by first | (simp [hne, hk2, del, zaa, getK, zab, zac]; done) | fail) (by rfl) (by first | assumption | (simp; done) | fail) (by rfl) (by simp) ?_; rintro ob' ⟨q', rfl⟩; refine ⟨_, Wk.refl _, ?_⟩)
  | fail)
  (refine hpan _ _ (PanG.k ([(i, pOb l q')]) (nx) (by simp [hn, hi, hne, zab, zac, zaa, getK] <;> omega) ?_); try simp)
  exact PPost.zbe (by simp [PR.bind, *])
theorem zqG {l : List Tok} (hl : TokOK l) {p q : Nat} {a b n : Int} (h : zv7 l p a b = .ok n q) : p <= q /\ q < l.length := by
 unfold zv7 at h;split at h
 ·cases h
 ·rename_i t ht;split at h
  ·rename_i hk2;split at h
   ·cases h;exact ⟨by omega, hl.fin p t ht (by omega)⟩
   ·cases h
  ·cases h
theorem zeB (l : List Tok) (p : Nat) (w : List UInt8) (a b : Int) (ws : List (List UInt8)) (i nx : Nat) (hi : i < nx) (hp : p < l.length) (hl : TokOK l) (hw : ws.length <= 100) :
  RetX Tryz.prog 87 [.ptr i 0, .u (.str w), zkv a, zkv b, .u (.sl (ws.map fun w => [.str w]))] [(i, pOb l p)] nx (PPost l i nx zkv (zeQ l p w a b ws)) := by
 have hne := zbm hi;have hh1 := fun nx' (h : nx <= nx') => zb9 l p w i nx' (by omega) hp hl.len;rw [zeQ];cases hb : isB l p w with
 | false =>
  simp only [hb, Bool.false_eq_true, if_false] at hh1 ⊢;refine RetX.runW Tryz.func87 Tryz.ntmps87 rfl (by simp) fun Γ hn hpan => ?_
  repeat' (first
  | (refine zaf rfl ?_; simp [hne, del])
  | (refine CallP.ok1 (hh1 _ (by first | omega | (simp <;> omega) | fail)) (by first | (simp [hne, del, zaa, getK, zab, zac]; done) | fail) (by rfl) (by first | assumption | (simp; done) | fail) (by rfl) (by simp) ?_; (try simp [hne, del]))
  | fail)
  (refine EndW.z ([(i, pOb l p)]) (N := nx) Tryz.results87 (by simp [hne, hi] <;> omega) ?_; simp [hne, hi])
  exact PPost.zdw rfl rfl rfl
 | true =>
  have hp2 := zbR hl hb;simp only [hb, if_true] at hh1 ⊢;have hn1 := fun nx' (h : nx <= nx') => zoM l (p + 1) a b i nx' (by omega) hp2 hl;cases hr0 : zv7 l (p + 1) a b with
  | stop pos e =>
   simp only [hr0] at hn1;refine RetX.runW Tryz.func87 Tryz.ntmps87 rfl (by simp) fun Γ hn hpan => ?_
   repeat' (first
  | (refine zaf rfl ?_; simp [hne, del])
  | (refine CallP.ok1 (hh1 _ (by first | omega | (simp <;> omega) | fail)) (by first | (simp [hne, del, zaa, getK, zab, zac]; done) | fail) (by rfl) (by first | assumption | (simp; done) | fail) (by rfl) (by simp) ?_; (try simp [hne, del]))
  | (refine CallP.zgg (hn1 _ (by first | omega | (simp <;> omega) | fail)) (by first | (simp [hne, del, zaa, getK, zab, zac]; done) | fail) (by rfl) (by first | assumption | (simp; done) | fail) (by rfl) (by simp) ?_; rintro ob' ⟨q', rfl⟩; refine ⟨_, Wk.refl _, ?_⟩)
  | fail)
   (refine hpan _ _ (PanG.k ([(i, pOb l q')]) (nx) (by simp [hn, hi, hne, zab, zac, zaa, getK] <;> omega) ?_); try simp)
   exact PPost.zbe (by simp [PR.bind, *])
  | ok n q0 =>
   simp only [hr0] at hn1;obtain ⟨g0a, g0b⟩ := zqG hl hr0;have hw1 := fun nx' (h : nx <= nx') => zj8 l q0 ws i nx' (by omega) g0b hl hw;cases hr1 : zcV l q0 ws with
   | stop pos e =>
    simp only [hr1] at hw1;refine RetX.runW Tryz.func87 Tryz.ntmps87 rfl (by simp) fun Γ hn hpan => ?_
    repeat' (first
  | (refine zaf rfl ?_; simp [hne, del])
  | (refine CallP.ok1 (hh1 _ (by first | omega | (simp <;> omega) | fail)) (by first | (simp [hne, del, zaa, getK, zab, zac]; done) | fail) (by rfl) (by first | assumption | (simp; done) | fail) (by rfl) (by simp) ?_; (try simp [hne, del]))
  | (refine CallP.ok1 (hn1 _ (by first | omega | (simp <;> omega) | fail)) (by first | (simp [hne, del, zaa, getK, zab, zac]; done) | fail) (by rfl) (by first | assumption | (simp; done) | fail) (by rfl) (by simp) ?_; (try simp [hne, del]))
  | (refine CallP.zgg (hw1 _ (by first | omega | (simp <;> omega) | fail)) (by first | (simp [hne, del, zaa, getK, zab, zac]; done) | fail) (by rfl) (by first | assumption | (simp; done) | fail) (by rfl) (by simp) ?_; rintro ob' ⟨q', rfl⟩; refine ⟨_, Wk.refl _, ?_⟩)
  | fail)
    (refine hpan _ _ (PanG.k ([(i, pOb l q')]) (nx) (by simp [hn, hi, hne, zab, zac, zaa, getK] <;> omega) ?_); try simp)
    exact PPost.zbe (by simp [PR.bind, *])
   | ok u q =>
    simp only [hr1] at hw1;refine RetX.runW Tryz.func87 Tryz.ntmps87 rfl (by simp) fun Γ hn hpan => ?_
    repeat' (first
  | (refine zaf rfl ?_; simp [hne, del])
  | (refine CallP.ok1 (hh1 _ (by first | omega | (simp <;> omega) | fail)) (by first | (simp [hne, del, zaa, getK, zab, zac]; done) | fail) (by rfl) (by first | assumption | (simp; done) | fail) (by rfl) (by simp) ?_; (try simp [hne, del]))
  | (refine CallP.ok1 (hn1 _ (by first | omega | (simp <;> omega) | fail)) (by first | (simp [hne, del, zaa, getK, zab, zac]; done) | fail) (by rfl) (by first | assumption | (simp; done) | fail) (by rfl) (by simp) ?_; (try simp [hne, del]))
  | (refine CallP.ok1 (hw1 _ (by first | omega | (simp <;> omega) | fail)) (by first | (simp [hne, del, zaa, getK, zab, zac]; done) | fail) (by rfl) (by first | assumption | (simp; done) | fail) (by rfl) (by simp) ?_; (try simp [hne, del]))
  | fail)
    (refine EndW.z ([(i, pOb l q)]) (N := nx) Tryz.results87 (by simp [hne, hi] <;> omega) ?_; simp [hne, hi])
    exact PPost.zdw (by simp [PR.bind, *]) rfl rfl
theorem zeC {l : List Tok} (hl : TokOK l) {p q : Nat} {w : List UInt8} {a b n : Int} {ws : List (List UInt8)} (h : zeQ l p w a b ws = .ok n q) (hp : p < l.length) : p <= q /\ q < l.length := by
 unfold zeQ at h;split at h
 ·obtain ⟨m, r, h1, h⟩ := PR.zaP h;have g1 := zqG hl h1;obtain ⟨m2, r2, h2, h⟩ := PR.zaP h;have g2 := zbA hl _ h2 g1.2;cases h;exact ⟨by omega, g2.2⟩
 ·cases h; exact ⟨by omega, hp⟩
theorem zh6 (l : List Tok) (p : Nat) (i nx : Nat) (hi : i < nx) (hp : p < l.length) (hl : TokOK l) (hl2 : l.length <= 2001) :
  RetX Tryz.prog 92 [.ptr i 0] [(i, pOb l p)] nx (PPost l i nx ziN (zfn l p)) := by
 have hne := zbm hi;have hll := hl.len;rw [zfn];have hE := fun nx' (h : nx <= nx') => (zqw hl (4 * l.length + 3)).1 p 0 i nx' (by omega) hp (by omega) (by omega) (by omega);cases hr : zfu l (4 * l.length + 3) p 0 with
 | stop pos e =>
  simp only [hr] at hE;refine RetX.runW Tryz.func92 Tryz.ntmps92 rfl (by simp) fun Γ hn hpan => ?_
  repeat' (first
  | (refine zaf rfl ?_; simp [hne, del])
  | (refine CallP.zgg (hE _ (by first | omega | (simp <;> omega) | fail)) (by first | (simp [hne, del, zaa, getK, zab, zac]; done) | fail) (by rfl) (by first | assumption | (simp; done) | fail) (by rfl) (by simp) ?_; rintro ob' ⟨q', rfl⟩; refine ⟨_, Wk.refl _, ?_⟩)
  | fail)
  (refine hpan _ _ (PanG.k ([(i, pOb l q')]) (nx) (by simp [hn, hi, hne, zab, zac, zaa, getK] <;> omega) ?_); try simp)
  exact PPost.zbe (by simp [PR.bind, *])
 | ok y q =>
  have hEx := fun nx' h => zeo (hE nx' h) hr;obtain ⟨g0a, g0b⟩ := (zdB hl _).1 _ _ _ _ hr hp;have hlev := (zlq (l := l) _).1 _ _ _ _ hr;have hlev2 : y.lev <= 1000000000 := by
   have h1 : ((4 * l.length + 3 : Nat) : Int) * ((4 * l.length + 3 : Nat) : Int) <= 8007 * 8007 := Int.mul_le_mul (by omega) (by omega) (by omega) (by omega);omega
  have hlv := zoV (SizeOf.sizeOf y) y (Nat.le_refl _) hlev2;rw [Exp.row_eq] at hlv;obtain ⟨t, ht⟩ : ∃ t, l[q]? = some t := ⟨_, List.getElem?_eq_getElem g0b⟩;have his := zfq l q [59] g0b hl.len;have hpa : zel l q = t.pos := by unfold zel; rw [ht]
  have hc1 := fun e nx' (h : nx <= nx') => zf8 l q e i nx' (by omega);have hc2 := fun e nx' (h : nx <= nx') => zeq l q t e i nx' (by omega) ht hl.len;rw [PR.bind_ok, hpa];cases hb : isB l q [59] with
  | false =>
   simp only [hb, Bool.false_eq_true, if_false] at his ⊢;refine RetX.runW Tryz.func92 Tryz.ntmps92 rfl (by simp) fun Γ hn hpan => ?_
   repeat' (first
  | (refine zaf rfl ?_; simp [hne, del])
  | (refine CallP.f2 rfl (his) (by first | simp [hne, del] <;> rfl | fail) ?_; simp [hne, del])
  | (refine CallP.ok1 (hEx _ (by first | omega | (simp <;> omega) | fail)) (by first | (simp [hne, del, zaa, getK, zab, zac]; done) | fail) (by rfl) (by first | assumption | (simp; done) | fail) (by rfl) (by simp) ?_; (try simp [hne, del]))
  | (refine CallP.zgg (hc2 _ _ (by first | omega | (simp <;> omega) | fail)) (by first | (simp [hne, del, zaa, getK, zab, zac]; done) | fail) (by rfl) (by first | assumption | (simp; done) | fail) (by rfl) (by simp) ?_; rintro ob' ⟨q', rfl⟩; refine ⟨_, Wk.refl _, ?_⟩)
  | fail)
   (refine hpan _ _ (PanG.k ([(i, pOb l q')]) (nx) (by simp [hn, hi, hne, zab, zac, zaa, getK] <;> omega) ?_); try simp)
   exact PPost.zbe (by simp [PR.bind, *])
  | true =>
   have hq2 := zbR hl hb;simp only [hb, if_true] at his ⊢;by_cases hv : y.lev <= 12
   ·simp only [hv, if_true];refine RetX.runW Tryz.func92 Tryz.ntmps92 rfl (by simp) fun Γ hn hpan => ?_
    repeat' (first
  | (refine zaf rfl ?_; simp [hne, del, hv])
  | (refine And.intro (by omega) ?_)
  | ((first | refine CallP.f2 rfl (his) (by first | simp [hne, del, hv] <;> rfl | fail) ?_ | refine CallP.f2 rfl (hlv) (by first | simp [hne, del, hv] <;> rfl | fail) ?_ | fail); simp [hne, del, hv])
  | (refine CallP.ok1 (hEx _ (by first | omega | (simp <;> omega) | fail)) (by first | (simp [hne, del, hv, zaa, getK, zab, zac]; done) | fail) (by rfl) (by first | assumption | (simp; done) | fail) (by rfl) (by simp) ?_; (try simp [hne, del, hv]))
  | (refine CallP.ok1 (hc1 _ _ (by first | omega | (simp <;> omega) | fail)) (by first | (simp [hne, del, hv, zaa, getK, zab, zac]; done) | fail) (by rfl) (by first | assumption | (simp; done) | fail) (by rfl) (by simp) ?_; (try simp [hne, del, hv]))
  | fail)
    refine EndW.norm ?_;simp [St.norm, za6, zbN, zb7, zce, hne, zzA]
    (refine EndW.z ([(i, pOb l (q + 1))]) (N := nx) Tryz.results92 (by simp [hne, hi] <;> omega) ?_; simp [hne, hi])
    exact PPost.zdw rfl (by simp [Exp.row_eq]) rfl
   ·simp only [hv, if_false];refine RetX.runW Tryz.func92 Tryz.ntmps92 rfl (by simp) fun Γ hn hpan => ?_
    repeat' (first
  | (refine zaf rfl ?_; simp [hne, del, hv])
  | ((first | refine CallP.f2 rfl (his) (by first | simp [hne, del, hv] <;> rfl | fail) ?_ | refine CallP.f2 rfl (hlv) (by first | simp [hne, del, hv] <;> rfl | fail) ?_ | fail); simp [hne, del, hv])
  | (refine CallP.ok1 (hEx _ (by first | omega | (simp <;> omega) | fail)) (by first | (simp [hne, del, hv, zaa, getK, zab, zac]; done) | fail) (by rfl) (by first | assumption | (simp; done) | fail) (by rfl) (by simp) ?_; (try simp [hne, del, hv]))
  | (refine CallP.ok1 (hc1 _ _ (by first | omega | (simp <;> omega) | fail)) (by first | (simp [hne, del, hv, zaa, getK, zab, zac]; done) | fail) (by rfl) (by first | assumption | (simp; done) | fail) (by rfl) (by simp) ?_; (try simp [hne, del, hv]))
  | (refine CallP.zgg (hc2 _ _ (by first | omega | (simp <;> omega) | fail)) (by first | (simp [hne, del, hv, zaa, getK, zab, zac]; done) | fail) (by rfl) (by first | assumption | (simp; done) | fail) (by rfl) (by simp) ?_; rintro ob' ⟨q', rfl⟩; refine ⟨_, Wk.refl _, ?_⟩)
  | fail)
    (refine hpan _ _ (PanG.k ([(i, pOb l q')]) (nx) (by simp [hn, hi, hne, zab, zac, zaa, getK] <;> omega) ?_); try simp)
    exact PPost.zbe (by simp [PR.bind, *])
theorem zh8 {l : List Tok} (hl : TokOK l) {p q : Nat} {e : Exp} (h : zfn l p = .ok e q) (hp : p < l.length) : p <= q /\ q < l.length := by
 unfold zfn at h;obtain ⟨y, r, h1, h⟩ := PR.zaP h;have g1 := (zdB hl _).1 _ _ _ _ h1 hp;split at h
 ·rename_i hb;split at h
  ·cases h;exact ⟨by omega, zbR hl hb⟩
  ·cases h
 ·cases h
theorem zmR : Fun Tryz.prog 121 [] (· = .u (.agg nothingE.row)) := by
 simp only [nothingE, Exp.row, zzD];refine Fun.runW Tryz.func121 Tryz.ntmps121 rfl (by simp) fun Γ hn => ?_
 repeat' (first
  | (refine zaf rfl ?_; simp)
  | fail)
 refine EndW.norm ?_;simp [St.norm, za6, zbN, zb7, zce];refine EndW.here ?_
 (refine EndOK.val (.inr rfl) ?_; simp [Tryz.results121])
theorem zf6 (l : List Tok) (p : Nat) (w : List UInt8) (i nx : Nat) (hi : i < nx) (hp : p < l.length) (hl : TokOK l) (hl2 : l.length <= 2001) :
  RetX Tryz.prog 93 [.ptr i 0, .u (.str w)] [(i, pOb l p)] nx (PPost l i nx ziN (zeL l p w)) := by
 have hne := zbm hi;have hh1 := fun nx' (h : nx <= nx') => zb9 l p w i nx' (by omega) hp hl.len;rw [zeL];cases hb : isB l p w with
 | false =>
  have h0 := zmR;simp only [nothingE, Exp.row, zzD] at h0;simp only [hb, Bool.false_eq_true, if_false] at hh1 ⊢;refine RetX.runW Tryz.func93 Tryz.ntmps93 rfl (by simp) fun Γ hn hpan => ?_
  repeat' (first
  | (refine zaf rfl ?_; simp [hne, del])
  | (refine CallP.f2 rfl (h0) (by first | simp [hne, del] <;> rfl | fail) ?_; simp [hne, del])
  | (refine CallP.ok1 (hh1 _ (by first | omega | (simp <;> omega) | fail)) (by first | (simp [hne, del, zaa, getK, zab, zac]; done) | fail) (by rfl) (by first | assumption | (simp; done) | fail) (by rfl) (by simp) ?_; (try simp [hne, del]))
  | fail)
  refine EndW.norm ?_;simp [St.norm, za6, zbN, zb7, zce, hne, zzA]
  (refine EndW.z ([(i, pOb l p)]) (N := nx) Tryz.results93 (by simp [hne, hi] <;> omega) ?_; simp [hne, hi])
  exact PPost.zdw rfl (by simp [nothingE, Exp.row]) rfl
 | true =>
  have hp2 := zbR hl hb;simp only [hb, if_true] at hh1 ⊢;have hn1 := fun nx' (h : nx <= nx') => zh6 l (p + 1) i nx' (by omega) hp2 hl hl2;cases hr0 : zfn l (p + 1) with
  | stop pos e =>
   simp only [hr0] at hn1;refine RetX.runW Tryz.func93 Tryz.ntmps93 rfl (by simp) fun Γ hn hpan => ?_
   repeat' (first
  | (refine zaf rfl ?_; simp [hne, del])
  | (refine CallP.ok1 (hh1 _ (by first | omega | (simp <;> omega) | fail)) (by first | (simp [hne, del, zaa, getK, zab, zac]; done) | fail) (by rfl) (by first | assumption | (simp; done) | fail) (by rfl) (by simp) ?_; (try simp [hne, del]))
  | (refine CallP.zgg (hn1 _ (by first | omega | (simp <;> omega) | fail)) (by first | (simp [hne, del, zaa, getK, zab, zac]; done) | fail) (by rfl) (by first | assumption | (simp; done) | fail) (by rfl) (by simp) ?_; rintro ob' ⟨q', rfl⟩; refine ⟨_, Wk.refl _, ?_⟩)
  | fail)
   (refine hpan _ _ (PanG.k ([(i, pOb l q')]) (nx) (by simp [hn, hi, hne, zab, zac, zaa, getK] <;> omega) ?_); try simp)
   exact PPost.zbe (by simp [PR.bind, *])
  | ok n q0 =>
   have hn1 := fun nx' h => zeo (hn1 nx' h) hr0;refine RetX.runW Tryz.func93 Tryz.ntmps93 rfl (by simp) fun Γ hn hpan => ?_
   repeat' (first
  | (refine zaf rfl ?_; simp [hne, del])
  | (refine CallP.ok1 (hh1 _ (by first | omega | (simp <;> omega) | fail)) (by first | (simp [hne, del, zaa, getK, zab, zac]; done) | fail) (by rfl) (by first | assumption | (simp; done) | fail) (by rfl) (by simp) ?_; (try simp [hne, del]))
  | (refine CallP.ok1 (hn1 _ (by first | omega | (simp <;> omega) | fail)) (by first | (simp [hne, del, zaa, getK, zab, zac]; done) | fail) (by rfl) (by first | assumption | (simp; done) | fail) (by rfl) (by simp) ?_; (try simp [hne, del]))
  | fail)
   refine EndW.norm ?_;simp [St.norm, za6, zbN, zb7, zce, hne, zzA]
   (refine EndW.z ([(i, pOb l q0)]) (N := nx) Tryz.results93 (by simp [hne, hi] <;> omega) ?_; simp [hne, hi])
   exact PPost.zdw rfl (by simp [Exp.row_eq]) rfl
theorem zf7 {l : List Tok} (hl : TokOK l) {p q : Nat} {w : List UInt8} {e : Exp} (h : zeL l p w = .ok e q) (hp : p < l.length) : p <= q /\ q < l.length := by
 unfold zeL at h;split at h
 ·rename_i hb;have := zh8 hl h (zbR hl hb);exact ⟨by omega, this.2⟩
 ·cases h; exact ⟨by omega, hp⟩
theorem _root_.Go.VL.CallP.pp {P : Program} {Γ : Ctx} {s : St} {k : St -> Prop} {dst : Option Tmp} {fop : Operand} {args : List Operand} {f caps} {ds : List D} {α : Type} {l : List Tok} {i : Nat} {ob : Ob} {val : α -> D} {r : PR α}
  (hret : RetX P f ds [(i, ob)] s.next (PPost l i s.next val r)) (hj : getK s.obs i = some ob) (hf : zal (opd s fop) = some (f, caps)) (hc : zae P f = true) (hds : args.map (opd s) ++ caps = ds) (hp : zaA dst s)
  (hk : ∀ a q, r = .ok a q -> k (({ s with obs := del s.obs i ++ [(i, pOb l q)], next := s.next } : St).put dst (val a)))
  (hx : ∀ pos e q, r = .stop pos e -> ∃ s2, Wk Γ { s with obs := del s.obs i ++ [(i, pOb l q)], next := s.next } s2 /\ Γ.pan (chP pos e) s2) : CallP P Γ fop args dst s k :=
 CallP.x1 hret hj hf hc hds hp (fun d o1 nx' _ h => by
  cases r with
  | ok a q => obtain ⟨h1, h2, h3⟩ := h; cases h1; subst h2; subst h3; exact hk a q rfl
  | stop pos e => obtain ⟨h1, _⟩ := h; cases h1) (fun ch o1 nx' _ h => by
  cases r with
  | ok a q => obtain ⟨h1, _⟩ := h; cases h1
  | stop pos e => obtain ⟨h1, ⟨ob', ⟨q, rfl⟩, h2⟩, h3⟩ := h; cases h1; subst h2; subst h3; exact hx pos e q rfl)
abbrev kbD (x : Int × Bool) : D := .tup [.u (.int .i64 x.1), .u (.bool x.2)]
theorem zti (l : List Tok) (p : Nat) (i nx : Nat) (hi : i < nx) (hp : p < l.length) (hl : TokOK l) :
  RetX Tryz.prog 84 [.ptr i 0] [(i, pOb l p)] nx (PPost l i nx kbD (zm1 l p)) := by
 have hne := zbm hi;have hll := hl.len;generalize hR : zm1 l p = R;rw [zm1] at hR;refine RetX.runW Tryz.func84 Tryz.ntmps84 rfl (by simp) fun Γ hn hpan => ?_
 repeat' (first
  | (refine zaf rfl ?_; simp [hne])
  | (refine zbr (by first | rfl | fail) (by first | simp [hne, frzN, frz1, zav, zau, St.frz, St.frzS, frzS, fv, za2, zbn, zbo, frzObS, zat, zan, del, frz, zbL] <;> rfl | fail) ?_)
  | fail)
 (refine CallP.pp (zgl hl [99, 105, 114, 99, 108, 101] (q := p) (i := i) (by first | omega | (simp <;> omega) | fail) hp) (by first | (simp [hi, hne, zzA, zaa, getK, zab, zac]; done) | fail) (by rfl) (by first | assumption | (simp; done) | fail) (by rfl) (by simp) (fun v1 q1 h1 => ?_) (fun pos e q' h1 => ⟨_, Wk.refl _, ?_⟩); rotate_left 1; (focus (rw [h1, PR.zdK] at hR; (refine hpan _ _ ⟨{ n := _, env := [], obs := [(i, pOb l q')], next := nx }, (Wk.cut rfl (by simp [hn]) (by simp [wkO, zaa, getK, zab, zac, Ob.under, D.under, zaj, zak, hi, hne, zzA, zab, zac, zaa, getK]) (by simp [wkU, zax, zaa, getK, D.under, hi, hne, zzA, zab, zac, zaa, getK]) (by simp [wkE, zax, zaa, getK, hi, hne, zzA, zab, zac, zaa, getK])), by simp [hn], ?_⟩; try simp); exact PPost.zbe hR.symm)); rw [h1, PR.bind_ok] at hR; (try simp [hi, hne, zzA]))
 obtain ⟨_, g1⟩ := zbA hl _ h1 hp;have hh1 := fun nx' (h : nx <= nx') => zb9 l q1 [114, 111, 116, 97, 116, 105, 110, 103] i nx' (by omega) g1 hl.len;have hh2 := fun nx' (h : nx <= nx') => zb9 l q1 [115, 97, 118, 105, 110, 103] i nx' (by omega) g1 hl.len;by_cases c1 : isB l q1 [114, 111, 116, 97, 116, 105, 110, 103] = true
 ·have g2 := zbR hl c1;rw [if_pos c1] at hR;simp only [c1, if_true] at hh1
  repeat' (first
  | (refine CallP.ok1 (hh1 _ (by first | omega | (simp <;> omega) | fail)) (by first | (simp [hne, del, zzA, zaa, getK, zab, zac]; done) | fail) (by rfl) (by first | assumption | (simp; done) | fail) (by rfl) (by simp) ?_; (try simp [hne, del, zzA]))
  | (refine zbr (by first | rfl | fail) (by first | simp [hne, del, zzA, frzN, frz1, zav, zau, St.frz, St.frzS, frzS, fv, za2, zbn, zbo, frzObS, zat, zan, del, frz, zbL] <;> rfl | fail) ?_)
  | fail)
  (refine CallP.pp (zgl hl [59] (q := q1 + 1) (i := i) (by first | omega | (simp <;> omega) | fail) g2) (by first | (simp [hi, hne, zzA, zaa, getK, zab, zac]; done) | fail) (by rfl) (by first | assumption | (simp; done) | fail) (by rfl) (by simp) (fun v2 q2 h2 => ?_) (fun pos e q' h2 => ⟨_, Wk.refl _, ?_⟩); rotate_left 1; (focus (rw [h2, PR.zdK] at hR; (refine hpan _ _ ⟨{ n := _, env := [], obs := [(i, pOb l q')], next := nx }, (Wk.cut rfl (by simp [hn]) (by simp [wkO, zaa, getK, zab, zac, Ob.under, D.under, zaj, zak, hi, hne, zzA, zab, zac, zaa, getK]) (by simp [wkU, zax, zaa, getK, D.under, hi, hne, zzA, zab, zac, zaa, getK]) (by simp [wkE, zax, zaa, getK, hi, hne, zzA, zab, zac, zaa, getK])), by simp [hn], ?_⟩; try simp); exact PPost.zbe hR.symm)); rw [h2, PR.bind_ok] at hR; (try simp [hi, hne, zzA]))
  repeat' (first | fail)
  (refine EndW.z ([(i, pOb l q2)]) (N := nx) Tryz.results84 (by simp [hne, hi] <;> omega) ?_; simp [hne, hi])
  exact PPost.zdw hR.symm rfl rfl
 ·rw [if_neg c1] at hR;simp only [c1, Bool.false_eq_true, if_false] at hh1;by_cases c2 : isB l q1 [115, 97, 118, 105, 110, 103] = true
  ·have g2 := zbR hl c2;rw [if_pos c2] at hR;simp only [c2, if_true] at hh2
   repeat' (first
  | (refine CallP.ok1 (hh1 _ (by first | omega | (simp <;> omega) | fail)) (by first | (simp [hne, del, zzA, zaa, getK, zab, zac]; done) | fail) (by rfl) (by first | assumption | (simp; done) | fail) (by rfl) (by simp) ?_; (try simp [hne, del, zzA]))
  | (refine CallP.ok1 (hh2 _ (by first | omega | (simp <;> omega) | fail)) (by first | (simp [hne, del, zzA, zaa, getK, zab, zac]; done) | fail) (by rfl) (by first | assumption | (simp; done) | fail) (by rfl) (by simp) ?_; (try simp [hne, del, zzA]))
  | (refine zbr (by first | rfl | fail) (by first | simp [hne, del, zzA, frzN, frz1, zav, zau, St.frz, St.frzS, frzS, fv, za2, zbn, zbo, frzObS, zat, zan, del, frz, zbL] <;> rfl | fail) ?_)
  | fail)
   (refine CallP.pp (zgl hl [59] (q := q1 + 1) (i := i) (by first | omega | (simp <;> omega) | fail) g2) (by first | (simp [hi, hne, zzA, zaa, getK, zab, zac]; done) | fail) (by rfl) (by first | assumption | (simp; done) | fail) (by rfl) (by simp) (fun v2 q2 h2 => ?_) (fun pos e q' h2 => ⟨_, Wk.refl _, ?_⟩); rotate_left 1; (focus (rw [h2, PR.zdK] at hR; (refine hpan _ _ ⟨{ n := _, env := [], obs := [(i, pOb l q')], next := nx }, (Wk.cut rfl (by simp [hn]) (by simp [wkO, zaa, getK, zab, zac, Ob.under, D.under, zaj, zak, hi, hne, zzA, zab, zac, zaa, getK]) (by simp [wkU, zax, zaa, getK, D.under, hi, hne, zzA, zab, zac, zaa, getK]) (by simp [wkE, zax, zaa, getK, hi, hne, zzA, zab, zac, zaa, getK])), by simp [hn], ?_⟩; try simp); exact PPost.zbe hR.symm)); rw [h2, PR.bind_ok] at hR; (try simp [hi, hne, zzA]))
   repeat' (first | fail)
   (refine EndW.z ([(i, pOb l q2)]) (N := nx) Tryz.results84 (by simp [hne, hi] <;> omega) ?_; simp [hne, hi])
   exact PPost.zdw hR.symm rfl rfl
  ·rw [if_neg c2] at hR;simp only [c2, Bool.false_eq_true, if_false] at hh2
   repeat' (first
  | (refine CallP.ok1 (hh1 _ (by first | omega | (simp <;> omega) | fail)) (by first | (simp [hne, del, zzA, zaa, getK, zab, zac]; done) | fail) (by rfl) (by first | assumption | (simp; done) | fail) (by rfl) (by simp) ?_; (try simp [hne, del, zzA]))
  | (refine CallP.ok1 (hh2 _ (by first | omega | (simp <;> omega) | fail)) (by first | (simp [hne, del, zzA, zaa, getK, zab, zac]; done) | fail) (by rfl) (by first | assumption | (simp; done) | fail) (by rfl) (by simp) ?_; (try simp [hne, del, zzA]))
  | (refine zbr (by first | rfl | fail) (by first | simp [hne, del, zzA, frzN, frz1, zav, zau, St.frz, St.frzS, frzS, fv, za2, zbn, zbo, frzObS, zat, zan, del, frz, zbL] <;> rfl | fail) ?_)
  | fail)
   (refine CallP.pp (zgl hl [98, 105, 100, 100, 105, 110, 103] (q := q1) (i := i) (by first | omega | (simp <;> omega) | fail) g1) (by first | (simp [hi, hne, zzA, zaa, getK, zab, zac]; done) | fail) (by rfl) (by first | assumption | (simp; done) | fail) (by rfl) (by simp) (fun v2 q2 h2 => ?_) (fun pos e q' h2 => ⟨_, Wk.refl _, ?_⟩); rotate_left 1; (focus (rw [h2, PR.zdK] at hR; (refine hpan _ _ ⟨{ n := _, env := [], obs := [(i, pOb l q')], next := nx }, (Wk.cut rfl (by simp [hn]) (by simp [wkO, zaa, getK, zab, zac, Ob.under, D.under, zaj, zak, hi, hne, zzA, zab, zac, zaa, getK]) (by simp [wkU, zax, zaa, getK, D.under, hi, hne, zzA, zab, zac, zaa, getK]) (by simp [wkE, zax, zaa, getK, hi, hne, zzA, zab, zac, zaa, getK])), by simp [hn], ?_⟩; try simp); exact PPost.zbe hR.symm)); rw [h2, PR.bind_ok] at hR; (try simp [hi, hne, zzA]))
   obtain ⟨_, g2⟩ := zbA hl _ h2 g1;have hh3 := fun nx' (h : nx <= nx') => zb9 l q2 [115, 101, 97, 108, 101, 100] i nx' (by omega) g2 hl.len;by_cases c3 : isB l q2 [115, 101, 97, 108, 101, 100] = true
   ·have g3 := zbR hl c3;rw [if_pos c3] at hR;simp only [c3, if_true] at hh3
    repeat' (first
  | (refine CallP.ok1 (hh3 _ (by first | omega | (simp <;> omega) | fail)) (by first | (simp [hne, del, zzA, zaa, getK, zab, zac]; done) | fail) (by rfl) (by first | assumption | (simp; done) | fail) (by rfl) (by simp) ?_; (try simp [hne, del, zzA]))
  | (refine zbr (by first | rfl | fail) (by first | simp [hne, del, zzA, frzN, frz1, zav, zau, St.frz, St.frzS, frzS, fv, za2, zbn, zbo, frzObS, zat, zan, del, frz, zbL] <;> rfl | fail) ?_)
  | fail)
    (refine CallP.pp (zgl hl [59] (q := q2 + 1) (i := i) (by first | omega | (simp <;> omega) | fail) g3) (by first | (simp [hi, hne, zzA, zaa, getK, zab, zac]; done) | fail) (by rfl) (by first | assumption | (simp; done) | fail) (by rfl) (by simp) (fun v3 q3 h3 => ?_) (fun pos e q' h3 => ⟨_, Wk.refl _, ?_⟩); rotate_left 1; (focus (rw [h3, PR.zdK] at hR; (refine hpan _ _ ⟨{ n := _, env := [], obs := [(i, pOb l q')], next := nx }, (Wk.cut rfl (by simp [hn]) (by simp [wkO, zaa, getK, zab, zac, Ob.under, D.under, zaj, zak, hi, hne, zzA, zab, zac, zaa, getK]) (by simp [wkU, zax, zaa, getK, D.under, hi, hne, zzA, zab, zac, zaa, getK]) (by simp [wkE, zax, zaa, getK, hi, hne, zzA, zab, zac, zaa, getK])), by simp [hn], ?_⟩; try simp); exact PPost.zbe hR.symm)); rw [h3, PR.bind_ok] at hR; (try simp [hi, hne, zzA]))
    repeat' (first
  | (refine zaf rfl ?_; simp [hne, del, zzA])
  | fail)
    (refine EndW.z ([(i, pOb l q3)]) (N := nx) Tryz.results84 (by simp [hne, hi] <;> omega) ?_; simp [hne, hi])
    exact PPost.zdw hR.symm rfl rfl
   ·rw [if_neg c3] at hR;simp only [c3, Bool.false_eq_true, if_false] at hh3
    repeat' (first
  | (refine CallP.ok1 (hh3 _ (by first | omega | (simp <;> omega) | fail)) (by first | (simp [hne, del, zzA, zaa, getK, zab, zac]; done) | fail) (by rfl) (by first | assumption | (simp; done) | fail) (by rfl) (by simp) ?_; (try simp [hne, del, zzA]))
  | (refine zbr (by first | rfl | fail) (by first | simp [hne, del, zzA, frzN, frz1, zav, zau, St.frz, St.frzS, frzS, fv, za2, zbn, zbo, frzObS, zat, zan, del, frz, zbL] <;> rfl | fail) ?_)
  | fail)
    (refine CallP.pp (zgl hl [59] (q := q2) (i := i) (by first | omega | (simp <;> omega) | fail) g2) (by first | (simp [hi, hne, zzA, zaa, getK, zab, zac]; done) | fail) (by rfl) (by first | assumption | (simp; done) | fail) (by rfl) (by simp) (fun v3 q3 h3 => ?_) (fun pos e q' h3 => ⟨_, Wk.refl _, ?_⟩); rotate_left 1; (focus (rw [h3, PR.zdK] at hR; (refine hpan _ _ ⟨{ n := _, env := [], obs := [(i, pOb l q')], next := nx }, (Wk.cut rfl (by simp [hn]) (by simp [wkO, zaa, getK, zab, zac, Ob.under, D.under, zaj, zak, hi, hne, zzA, zab, zac, zaa, getK]) (by simp [wkU, zax, zaa, getK, D.under, hi, hne, zzA, zab, zac, zaa, getK]) (by simp [wkE, zax, zaa, getK, hi, hne, zzA, zab, zac, zaa, getK])), by simp [hn], ?_⟩; try simp); exact PPost.zbe hR.symm)); rw [h3, PR.bind_ok] at hR; (try simp [hi, hne, zzA]))
    repeat' (first
  | (refine zaf rfl ?_; simp [hne, del, zzA])
  | fail)
    (refine EndW.z ([(i, pOb l q3)]) (N := nx) Tryz.results84 (by simp [hne, hi] <;> omega) ?_; simp [hne, hi])
    exact PPost.zdw hR.symm rfl rfl
theorem ztk {l : List Tok} (hl : TokOK l) {p q : Nat} {x : Int × Bool} (h : zm1 l p = .ok x q) (hp : p < l.length) : p <= q /\ q < l.length := by
 unfold zm1 at h;obtain ⟨_, r1, h1, h⟩ := PR.zaP h;have g1 := zbA hl _ h1 hp;split at h
 ·rename_i hb;obtain ⟨_, r2, h2, h⟩ := PR.zaP h;have g2 := zbA hl _ h2 (zbR hl hb);cases h;exact ⟨by omega, g2.2⟩
 ·split at h
  ·rename_i hb;obtain ⟨_, r2, h2, h⟩ := PR.zaP h;have g2 := zbA hl _ h2 (zbR hl hb);cases h;exact ⟨by omega, g2.2⟩
  ·obtain ⟨_, r2, h2, h⟩ := PR.zaP h;have g2 := zbA hl _ h2 g1.2;split at h
   ·rename_i hb;obtain ⟨_, r3, h3, h⟩ := PR.zaP h;have g3 := zbA hl _ h3 (zbR hl hb);cases h;exact ⟨by omega, g3.2⟩
   ·obtain ⟨_, r3, h3, h⟩ := PR.zaP h;have g3 := zbA hl _ h3 g2.2;cases h;exact ⟨by omega, g3.2⟩
theorem zoJ : Fun Tryz.prog 118 [] (· = .u (.sl (ordersW.map fun w => [.str w]))) := by
 simp only [ordersW, zzC, zzD];refine Fun.runW Tryz.func118 Tryz.ntmps118 rfl (by simp) fun Γ hn => ?_
 repeat' (first
  | (refine zaf rfl ?_; simp [zbQ, zbM])
  | fail)
 (refine EndW.frzN 1 ?_; simp [del])
 refine EndW.here ?_
 (refine EndOK.val (.inr rfl) ?_; simp [Tryz.results118])
def atW (l : List Tok) (q : Nat) (ws : List W8) : Option Nat := ws.findIdx? fun w => isB l q w
theorem zo3 (l : List Tok) (q : Nat) (ws : List W8) (i nx : Nat) (hi : i < nx) (hq : q < l.length) (hl : TokOK l) :
  RetX Tryz.prog 117 [.u (.sl (ws.map fun w => [.str w])), .bnd (.func 115) [.ptr i 0]] [(i, pOb l q)] nx
   (fun r o n => r = .val (match atW l q ws with | some j => zkv j | none => zkv (-1)) /\ o = [(i, pOb l (if (atW l q ws).isSome then q + 1 else q))] /\ n = nx) := by
 have hne := zbm hi;generalize hA : atW l q ws = A;refine RetX.runW Tryz.func117 Tryz.ntmps117 rfl (by simp) fun Γ hn hpan => ?_; simp only [zzE, zzC, zzD];refine zg3 (x := 0) rfl fun hll => ?_;simp at hll
 repeat' (first
  | (refine zaf rfl ?_; simp)
  | fail)
 refine zbZ (α := { j : Nat // j <= ws.length /\ ∀ w ∈ ws.take j, isB l q w = false }) [0, 1, 7] (fun x => [(8, .u (.int .i64 x.1))]) (fun x => [(i, pOb l q)]) nx (fun x => ws.length - x.1) ⟨0, by omega, by simp⟩ ?_ ?_
 ·exact (Wk.zdz (by simp [hn, hi] <;> grind))
 rintro ⟨j, h1, h2⟩;simp;rcases hx : ws[j]? with _ | w
 ·have hge : ws.length <= j := by simpa using hx
  rw [List.take_of_length_le hge] at h2;have hn0 : atW l q ws = none := by
   unfold atW;rw [List.findIdx?_eq_none_iff];exact h2
  rw [hn0] at hA;subst hA
  repeat' (first
  | (refine Cnd.of (fun hc => ?_) (fun hc => ?_) <;> (try (exfalso; omega)) <;> (try simp [hx]))
  | (refine zaf rfl ?_; simp [hx])
  | fail)
  (refine EndW.h Tryz.results117 ?_; simp)
 ·have hlt : j < ws.length := (List.getElem?_eq_some_iff.1 hx).1;have hh := zb9 l q w i nx hi hq hl.len;cases hb : isB l q w with
  | false =>
   rw [hb, if_neg (by simp)] at hh
   repeat' (first
  | (refine Cnd.of (fun hc => ?_) (fun hc => ?_) <;> (try (exfalso; omega)) <;> (try simp [hx]))
  | (refine zaf rfl ?_; simp [hx])
  | fail)
   refine CallP.bok hh (by simp [zaa, getK]) rfl (by first | assumption | simp) rfl (by simp) ?_
   (try simp [hx, zc0, del])
   repeat' (first
  | (refine And.intro (by omega) ?_)
  | fail)
   refine LoopW.next ⟨j + 1, by omega, zbd hx h2 hb⟩ (by simp; omega) ?_
   exact (Wk.zdz (by simp [hn, hi, zab, zac, zaa, getK] <;> grind))
  | true =>
   rw [hb, if_pos rfl] at hh;have hn0 : atW l q ws = some j := by
    unfold atW;rw [List.findIdx?_eq_some_iff_getElem];obtain ⟨h3, h4⟩ := List.getElem?_eq_some_iff.1 hx;refine ⟨h3, by rw [h4]; exact hb, fun k hk => ?_⟩;have := h2 ws[k] (by rw [List.mem_take_iff_getElem]; exact ⟨k, by omega, rfl⟩);simp [this]
   rw [hn0] at hA;subst hA
   repeat' (first
  | (refine Cnd.of (fun hc => ?_) (fun hc => ?_) <;> (try (exfalso; omega)) <;> (try simp [hx]))
  | (refine zaf rfl ?_; simp [hx])
  | fail)
   refine CallP.bok hh (by simp [zaa, getK]) rfl (by first | assumption | simp) rfl (by simp) ?_
   (try simp [hx, zc0, del])
   repeat' (first | fail)
   (refine EndW.h Tryz.results117 ?_; simp)
theorem zqA (l : List Tok) (p : Nat) (i nx : Nat) (hi : i < nx) (hp : p < l.length) (hl : TokOK l) :
  RetX Tryz.prog 88 [.ptr i 0] [(i, pOb l p)] nx (PPost l i nx zkv (zim l p)) := by
 have hne := zbm hi;have hll := hl.len;have hor := zoJ;generalize hR : zim l p = R;rw [zim] at hR;have hh1 := fun nx' (h : nx <= nx') => zb9 l p [111, 114, 100, 101, 114] i nx' (by omega) hp hl.len;by_cases c1 : isB l p [111, 114, 100, 101, 114] = true
 ·have g1 := zbR hl c1;rw [if_pos c1] at hR;simp only [c1, if_true] at hh1;have hix := fun nx' (h : nx <= nx') => zo3 l (p + 1) ordersW i nx' (by omega) g1 hl;have hat : atW l (p + 1) ordersW = ordersW.findIdx? fun w => isB l (p + 1) w := rfl;rw [<- hat] at hR;obtain ⟨t, ht⟩ : ∃ t, l[p + 1]? = some t := ⟨_, List.getElem?_eq_getElem g1⟩;have hpa : zel l (p + 1) = t.pos := by unfold zel; rw [ht]
  rw [hpa] at hR;cases hj : atW l (p + 1) ordersW with
  | none =>
   have hc2 := fun e nx' (h : nx <= nx') => zeq l (p + 1) t e i nx' (by omega) ht hl.len;rw [hj] at hR hix;simp only [Option.isSome_none, Bool.false_eq_true, if_false] at hR hix;refine RetX.runW Tryz.func88 Tryz.ntmps88 rfl (by simp) fun Γ hn hpan => ?_
   repeat' (first
  | (refine zaf rfl ?_; simp [hne, del, zzA])
  | (refine CallP.f2 rfl (hor) (by first | simp [hne, del, zzA] <;> rfl | fail) ?_; simp [hne, del, zzA])
  | (refine CallP.ok1 (hh1 _ (by first | omega | (simp <;> omega) | fail)) (by first | (simp [hne, del, zzA, zaa, getK, zab, zac]; done) | fail) (by rfl) (by first | assumption | (simp; done) | fail) (by rfl) (by simp) ?_; (try simp [hne, del, zzA]))
  | (refine CallP.ok1 (hix _ (by first | omega | (simp <;> omega) | fail)) (by first | (simp [hne, del, zzA, zaa, getK, zab, zac]; done) | fail) (by rfl) (by first | assumption | (simp; done) | fail) (by rfl) (by simp) ?_; (try simp [hne, del, zzA]))
  | (refine CallP.zgg (hc2 _ _ (by first | omega | (simp <;> omega) | fail)) (by first | (simp [hne, del, zzA, zaa, getK, zab, zac]; done) | fail) (by rfl) (by first | assumption | (simp; done) | fail) (by rfl) (by simp) ?_; rintro ob' ⟨q', rfl⟩; refine ⟨_, Wk.refl _, ?_⟩)
  | fail)
   (refine hpan _ _ (PanG.k ([(i, pOb l q')]) (nx) (by simp [hn, hi, hne, zab, zac, zaa, getK] <;> omega) ?_); try simp)
   exact PPost.zbe hR.symm
  | some j =>
   have g2 : p + 1 + 1 < l.length := by
    unfold atW at hj;rw [List.findIdx?_eq_some_iff_getElem] at hj;obtain ⟨_, hb, _⟩ := hj;exact zbR hl hb
   have hj0 : (0 : Int) <= (j : Int) := by omega
   have hc1 := fun e nx' (h : nx <= nx') => zf8 l (p + 1 + 1) e i nx' (by omega);rw [hj] at hR hix;simp only [Option.isSome_some, if_true] at hR hix;refine RetX.runW Tryz.func88 Tryz.ntmps88 rfl (by simp) fun Γ hn hpan => ?_
   repeat' (first
  | (refine zaf rfl ?_; simp [hne, del, zzA, hj0])
  | (refine CallP.f2 rfl (hor) (by first | simp [hne, del, zzA, hj0] <;> rfl | fail) ?_; simp [hne, del, zzA, hj0])
  | (refine CallP.ok1 (hh1 _ (by first | omega | (simp <;> omega) | fail)) (by first | (simp [hne, del, zzA, hj0, zaa, getK, zab, zac]; done) | fail) (by rfl) (by first | assumption | (simp; done) | fail) (by rfl) (by simp) ?_; (try simp [hne, del, zzA, hj0]))
  | (refine CallP.ok1 (hix _ (by first | omega | (simp <;> omega) | fail)) (by first | (simp [hne, del, zzA, hj0, zaa, getK, zab, zac]; done) | fail) (by rfl) (by first | assumption | (simp; done) | fail) (by rfl) (by simp) ?_; (try simp [hne, del, zzA, hj0]))
  | (refine CallP.ok1 (hc1 _ _ (by first | omega | (simp <;> omega) | fail)) (by first | (simp [hne, del, zzA, hj0, zaa, getK, zab, zac]; done) | fail) (by rfl) (by first | assumption | (simp; done) | fail) (by rfl) (by simp) ?_; (try simp [hne, del, zzA, hj0]))
  | (refine zbr (by first | rfl | fail) (by first | simp [hne, del, zzA, hj0, frzN, frz1, zav, zau, St.frz, St.frzS, frzS, fv, za2, zbn, zbo, frzObS, zat, zan, del, frz, zbL] <;> rfl | fail) ?_)
  | fail)
   (refine CallP.pp (zgl hl [59] (q := p + 1 + 1) (i := i) (by first | omega | (simp <;> omega) | fail) g2) (by first | (simp [hi, hne, zzA, zaa, getK, zab, zac]; done) | fail) (by rfl) (by first | assumption | (simp; done) | fail) (by rfl) (by simp) (fun v2 q2 h2 => ?_) (fun pos e q' h2 => ⟨_, Wk.refl _, ?_⟩); rotate_left 1; (focus (rw [h2, PR.zdK] at hR; (refine hpan _ _ ⟨{ n := _, env := [], obs := [(i, pOb l q')], next := nx }, (Wk.cut rfl (by simp [hn]) (by simp [wkO, zaa, getK, zab, zac, Ob.under, D.under, zaj, zak, hi, hne, zzA, zab, zac, zaa, getK]) (by simp [wkU, zax, zaa, getK, D.under, hi, hne, zzA, zab, zac, zaa, getK]) (by simp [wkE, zax, zaa, getK, hi, hne, zzA, zab, zac, zaa, getK])), by simp [hn], ?_⟩; try simp); exact PPost.zbe hR.symm)); rw [h2, PR.bind_ok] at hR; (try simp [hi, hne, zzA]))
   repeat' (first | fail)
   (refine EndW.z ([(i, pOb l q2)]) (N := nx) Tryz.results88 (by simp [hne, hi] <;> omega) ?_; simp [hne, hi])
   exact PPost.zdw hR.symm rfl rfl
 ·rw [if_neg c1] at hR;simp only [c1, Bool.false_eq_true, if_false] at hh1;refine RetX.runW Tryz.func88 Tryz.ntmps88 rfl (by simp) fun Γ hn hpan => ?_
  repeat' (first
  | (refine zaf rfl ?_; simp [hne, del, zzA])
  | (refine CallP.ok1 (hh1 _ (by first | omega | (simp <;> omega) | fail)) (by first | (simp [hne, del, zzA, zaa, getK, zab, zac]; done) | fail) (by rfl) (by first | assumption | (simp; done) | fail) (by rfl) (by simp) ?_; (try simp [hne, del, zzA]))
  | fail)
  (refine EndW.z ([(i, pOb l p)]) (N := nx) Tryz.results88 (by simp [hne, hi] <;> omega) ?_; simp [hne, hi])
  exact PPost.zdw hR.symm rfl rfl
theorem zqB {l : List Tok} (hl : TokOK l) {p q : Nat} {n : Int} (h : zim l p = .ok n q) (hp : p < l.length) : p <= q /\ q < l.length := by
 unfold zim at h;split at h
 ·split at h
  ·rename_i j hj;rw [List.findIdx?_eq_some_iff_getElem] at hj;obtain ⟨_, hb, _⟩ := hj;obtain ⟨_, r2, h2, h⟩ := PR.zaP h;have g2 := zbA hl _ h2 (zbR hl hb);cases h;exact ⟨by omega, g2.2⟩
  ·cases h
 ·cases h; exact ⟨by omega, hp⟩
theorem zlb (x : Let) (s : W8) : Fun Tryz.prog 90 (zth x :: [U.row [.str s] 0].map .u) (· = .u (.bool (decide (x.name = s)))) := by
 simp only [zth, zzC, zzD];refine Fun.run Tryz.func90 Tryz.ntmps90 Tryz.results90 rfl (by simp) fun Γ hn => ?_
 repeat' (first
  | (refine zaf rfl ?_; simp)
  | fail)
 (refine Pst.of ?_; simp)
theorem zp9 (lets : List Let) (s : W8) : Fun Tryz.prog 28 [.u (zaV lets), .fnc (.func 90) [.u (.row [.str s] 0)]]
  (· = .u (.bool (lets.any fun x => decide (x.name = s)))) :=
 zfj lets 90 [U.row [.str s] 0] _ (fun x _ => zlb x s) (by simp) (fun _ => rfl) (fun _ => rfl)
end Go.Proofs.YtmlpcgkaonifcaaGreatDoor
namespace Go.Proofs.YtmlpcgkaonifcaaGreatDoor
open Go Go.VL
theorem zqR {l : List Tok} {p q : Nat} {w : W8} {x : Unit} (h : zmU l p w = .ok x q) : q = p /\ isB l p w = true := by
 unfold zmU at h;split at h
 ·cases h; exact ⟨rfl, by assumption⟩
 ·cases h
def zpM (l : List Tok) (p : Nat) (b : Bool) (e : Int) : PR Unit := if b = true then .ok () p else .stop (zel l p) e
theorem ziS (l : List Tok) (p : Nat) (b : Bool) (e : Int) (i nx : Nat) (hi : i < nx) (hp : p < l.length) (hl : TokOK l) :
  RetX Tryz.prog 85 [.ptr i 0, .u (.bool b), .u (.int .i64 e)] [(i, pOb l p)] nx (PPost l i nx (fun _ => .tup []) (zpM l p b e)) := by
 obtain ⟨t, ht⟩ : ∃ t, l[p]? = some t := ⟨_, List.getElem?_eq_getElem hp⟩;have hpa : zel l p = t.pos := by unfold zel; rw [ht]
 unfold zpM;cases b with
 | true => exact zf8 l p e i nx hi
 | false => rw [if_neg (by simp), hpa]; exact zeq l p t e i nx hi ht hl.len
theorem znO (l : List Tok) (p : Nat) (w : W8) (i nx : Nat) (hi : i < nx) (hp : p < l.length) (hl : TokOK l) :
  RetX Tryz.prog 85 [.ptr i 0, .u (.bool (isB l p w)), .u (.int .i64 12)] [(i, pOb l p)] nx (PPost l i nx (fun _ => .tup []) (zmU l p w)) := ziS l p (isB l p w) 12 i nx hi hp hl
theorem zrK {l : List Tok} {p q : Nat} {b : Bool} {e : Int} {x : Unit} (h : zpM l p b e = .ok x q) : q = p /\ b = true := by
 unfold zpM at h;split at h
 ·cases h; exact ⟨rfl, by assumption⟩
 ·cases h
theorem zvt {l : List Tok} {p : Nat} {t : Tok} (ht : l[p]? = some t) (i nx : Nat) (hi : i < nx) (hl : TokOK l) :
  RetX Tryz.prog 85 [.ptr i 0, .u (.bool (decide (t.kind = 0))), .u (.int .i64 12)] [(i, pOb l p)] nx (PPost l i nx (fun _ => .tup []) (zvu l p)) := by
 have h := ziS l p (decide (t.kind = 0)) 12 i nx hi (List.getElem?_eq_some_iff.1 ht).1 hl;have e : zpM l p (decide (t.kind = 0)) 12 = zvu l p := by
  unfold zpM zvu zel;rw [ht];simp
 rwa [e] at h
theorem zww {l : List Tok} {p q : Nat} {x : Unit} (h : zvu l p = .ok x q) : q = p := by
 unfold zvu at h;split at h
 ·split at h
  ·cases h; rfl
  ·cases h
 ·cases h
theorem zoW {l : List Tok} {f p : Nat} {acc : List Let} {t : Tok} (ht : l[p + 1]? = some t) : ziB l (f + 1) p acc = if isB l p [108, 101, 116] = true then
  (zpM l p (decide ((acc.length : Int) < 20)) 6).bind fun _ _ => (zpM l (p + 1) (decide (t.kind = 1) && zfc t.text) 12).bind fun _ _ =>
  (zpM l (p + 1) (!(acc.any fun x => decide (x.name = t.text))) 5).bind fun _ _ => (zcV l (p + 2) [[61]]).bind fun _ q => (zfn l q).bind fun e r => ziB l f r (acc ++ [⟨t.text, e⟩])
  else .ok acc p := by
 have hpa : zel l (p + 1) = t.pos := by unfold zel; rw [ht]
 rw [ziB, ht];unfold zpM;rw [hpa];by_cases h1 : isB l p [108, 101, 116] = true
 ·rw [if_pos h1, if_pos h1];by_cases h2 : acc.length < 20
  ·rw [if_pos h2, if_pos (by simp; omega), PR.bind_ok];simp only;by_cases h3 : t.kind = 1 /\ zfc t.text = true
   ·have e3 : (decide (t.kind = 1) && zfc t.text) = true := by simp [h3]
    rw [if_pos h3, e3];simp only [if_true, PR.bind_ok];by_cases h4 : (acc.any fun x => decide (x.name = t.text)) = true
    ·have e4 : (!acc.any fun x => decide (x.name = t.text)) = false := by rw [h4]; rfl
     rw [if_pos h4, e4];rfl
    ·have e4 : (!acc.any fun x => decide (x.name = t.text)) = true := by simpa using h4
     rw [if_neg h4, e4];rfl
   ·have e3 : (decide (t.kind = 1) && zfc t.text) = false := by simpa using h3
    rw [if_neg h3, e3];rfl
  ·have e2 : decide ((acc.length : Int) < 20) = false := by simp; omega
   rw [if_neg h2, e2];rfl
 ·rw [if_neg h1, if_neg h1]
theorem zq7 {l : List Tok} {f p : Nat} {acc : List Let} (h : ¬ isB l p [108, 101, 116] = true) : ziB l (f + 1) p acc = .ok acc p := by rw [ziB, if_neg h]
theorem PR.ze2 {α β γ : Type} {r : PR α} {f : α -> Nat -> PR β} {g : β -> Nat -> PR γ} : (r.bind f).bind g = r.bind fun a p => (f a p).bind g := by cases r <;> rfl
def zhN (acc : List Let) : List (List U) := acc.map fun l => [.str l.name, .int .i64 l.body.op, .int .i64 l.body.n, .int .i64 l.body.unit, .str l.body.s, .sl (l.body.args.map Exp.row)]
theorem zq8 (acc : List Let) : (zhN acc).length = acc.length := by simp [zhN]
theorem zoX (acc : List Let) (s : W8) (e : Exp) : zhN (acc ++ [⟨s, e⟩]) = zhN acc ++ [[.str s, .int .i64 e.op, .int .i64 e.n, .int .i64 e.unit, .str e.s, .sl (e.args.map Exp.row)]] := by simp [zhN]
abbrev byD (b : By) : D := .u (.agg (zaF b))
theorem _root_.Go.VL.CallP.pq {P : Program} {Γ : Ctx} {s : St} {k : St -> Prop} {dst : Option Tmp} {fop : Operand} {args : List Operand} {f caps} {ds : List D} {α β : Type} {l : List Tok} {i N : Nat} {ob : Ob} {val : α -> D} {r : PR α} {g : α -> Nat -> PR β} {R : PR β}
  (hret : RetX P f ds [(i, ob)] s.next (PPost l i s.next val r)) (hj : getK s.obs i = some ob) (hf : zal (opd s fop) = some (f, caps)) (hc : zae P f = true) (hds : args.map (opd s) ++ caps = ds) (hp : zaA dst s)
  (hR : r.bind g = R) (hst : ∀ (s1 : St) (q : Nat) (pos e : Int), getK s1.obs i = some (pOb l q) -> N <= s1.next -> R = .stop pos e -> Γ.pan (chP pos e) s1) (hN : N <= s.next)
  (hk : ∀ a q, r = .ok a q -> g a q = R -> k (({ s with obs := del s.obs i ++ [(i, pOb l q)], next := s.next } : St).put dst (val a))) : CallP P Γ fop args dst s k :=
 CallP.pp hret hj hf hc hds hp (fun a q h => hk a q h (by rw [h] at hR; exact hR)) (fun pos e q h => ⟨_, Wk.refl _, hst _ q pos e (by simp [zab, zac, zaa, getK]) hN (by rw [h] at hR; exact hR.symm)⟩)
end Go.Proofs.YtmlpcgkaonifcaaGreatDoor
namespace Go.Proofs.YtmlpcgkaonifcaaGreatDoor
open Go Go.VL
def zjn : By := ⟨0, 0, 0, 0, 0, 0, false, 0, 0, 0, 0, [], zh5, zh5, zh5, zh5, zh5⟩
def zil (s : W8) : By × Int × Int := match zpL s with
 | .error (p, e) => (zjn, p, e)
 | .ok l => match zvM l with
  | .stop pos e => (zjn, pos, e)
  | .ok b _ => (b, 0, 0)
def zwI (r : By × Int × Int) : D := .tup [.u (.agg (zaF r.1)), .u (.int .i64 r.2.1), .u (.int .i64 r.2.2)]
abbrev zt3 : Ob := .box [.u (.int .i64 0), .u (.int .i64 0), .u (.int .i64 0), .u (.int .i64 0), .u (.int .i64 0), .u (.int .i64 0), .u (.bool false), .u (.int .i64 0), .u (.int .i64 0), .u (.int .i64 0), .u (.int .i64 0), .u .nil, .u (.int .i64 0), .u (.int .i64 0), .u (.int .i64 0), .u (.str []), .u .nil, .u (.int .i64 0), .u (.int .i64 0), .u (.int .i64 0), .u (.str []), .u .nil, .u (.int .i64 0), .u (.int .i64 0), .u (.int .i64 0), .u (.str []), .u .nil, .u (.int .i64 0), .u (.int .i64 0), .u (.int .i64 0), .u (.str []), .u .nil, .u (.int .i64 0), .u (.int .i64 0), .u (.int .i64 0), .u (.str []), .u .nil]
end Go.Proofs.YtmlpcgkaonifcaaGreatDoor
namespace Go.Proofs.YtmlpcgkaonifcaaGreatDoor
open Go Go.VL
mutual
def zwo : Exp -> Int
 | .mk _ _ _ _ args => zq5 args + 1
def zq5 : List Exp -> Int
 | [] => 0
 | e :: l => max (zwo e) (zq5 l)
end
theorem zje (l : List Int) (a : Int) (ha : 0 <= a) : l.foldl max a = max a (l.foldl max 0) := by
 induction l generalizing a with
 | nil => simp; omega
 | cons b l ih => simp only [List.foldl_cons]; rw [ih (max a b) (by omega), ih (max 0 b) (by omega)]; omega
mutual
theorem zq6 : ∀ e : Exp, zwo e = e.lev
 | .mk op n u s args => by rw [zwo, Exp.zi5, znV]; rfl
theorem znV : ∀ l : List Exp, zq5 l = (l.map Exp.lev).foldl max 0
 | [] => by rw [zq5]; rfl
 | e :: l => by
  have := e.lev_pos;rw [zq5, zq6, znV, zzC, List.foldl_cons, zje (l.map Exp.lev) (max 0 e.lev) (by omega)];omega
end
def zya (s : List UInt8) : Exp × Int × Int := match zpL s with
 | .error (p, e) => (zh5, p, e)
 | .ok l => match zfu l (4 * l.length + 3) 0 0 with
  | .stop pos e => (zh5, pos, e)
  | .ok y q => if zwr l q ≠ 0 then (zh5, zel l q, 12) else if 12 < zwo y then (zh5, zel l q, 6) else (y, 0, 0)
def zkV (l : List Tok) (p : Nat) : PR Exp := (zfu l (4 * l.length + 3) p 0).bind fun e q =>
 if isB l q [59] = true then if zwo e <= 12 then .ok e (q + 1) else .stop (zel l q) 6 else .stop (zel l q) 12
def zs9 (l : List Tok) : Nat -> Nat -> List Let -> PR (List Let)
 | 0, _, _ => .stop 0 0
 | f + 1, p, acc => if isB l p [108, 101, 116] = true then
   if acc.length < 20 then match l[p + 1]? with
    | none => .stop 0 0
    | some t => if t.kind = 1 ∧ zfc t.text = true then
          if (acc.any fun x => decide (x.name = t.text)) = true then .stop t.pos 5
          else (zcV l (p + 2) [[61]]).bind fun _ q => (zkV l q).bind fun e r => zs9 l f r (acc ++ [⟨t.text, e⟩])
     else .stop t.pos 12
   else .stop (zel l p) 6
  else .ok acc p
def zhx (l : List Tok) (p : Nat) (word : W8) : PR Exp := if isB l p word = true then zkV l (p + 1) else .ok nothingE p
def zxT (l : List Tok) : PR By :=
 (zm1 l 0).bind fun k p => (zmU l p [112, 101, 114, 105, 111, 100]).bind fun _ p => (zeQ l p [112, 101, 114, 105, 111, 100] 1 1000 [[100, 97, 121, 115], [59]]).bind fun period p =>
 (zmU l p [108, 97, 115, 116]).bind fun _ p => (zeQ l p [108, 97, 115, 116] 1 1000 [[59]]).bind fun last p =>
 (zeQ l p [103, 114, 97, 99, 101] 0 1000 [[100, 97, 121, 115], [59]]).bind fun grace p => (zeQ l p [119, 97, 105, 116] 0 1000 [[100, 97, 121, 115], [59]]).bind fun wait p =>
 (zim l p).bind fun order p => (zeQ l p [98, 97, 99, 107, 115] 0 60 [[59]]).bind fun backs p => (zeQ l p [118, 111, 105, 99, 101, 115] 0 1000 [[112, 101, 114], [109, 105, 108, 108, 101], [59]]).bind fun voices p =>
 (zeQ l p [106, 117, 114, 121] 0 60 [[59]]).bind fun jury p => (zeQ l p [102, 117, 110, 100] 0 1000 [[112, 101, 114], [109, 105, 108, 108, 101], [59]]).bind fun fund p =>
 (zs9 l 21 p []).bind fun lets p => (zcV l p [[100, 117, 101]]).bind fun _ p => (zkV l p).bind fun due p =>
 (zhx l p [102, 105, 110, 101]).bind fun fine p => (zhx l p [112, 97, 121]).bind fun pay p => (zhx l p [99, 111, 118, 101, 114]).bind fun cover p => (zhx l p [104, 111, 108, 100]).bind fun hold p =>
 (zvu l p).bind fun _ p => .ok ⟨k.1, period, grace, wait, last, order, k.2, backs, voices, jury, fund, lets, due, fine, pay, cover, hold⟩ p
theorem zh7 : zfn = zkV := by
 funext l p;unfold zfn zkV;simp only [zq6]
theorem znW (l : List Tok) : ∀ f p acc, ziB l f p acc = zs9 l f p acc
 | 0, p, acc => rfl
 | f + 1, p, acc => by
  rw [ziB, zs9, zh7];simp only [znW l f]
  try rfl
theorem zpv : zeL = zhx := by
 funext l p w;unfold zeL zhx;rw [zh7]
theorem zvL (l : List Tok) : zvM l = zxT l := by
 unfold zvM zxT;rw [zh7, zpv];simp only [znW]
def zlr (s : W8) : By × Int × Int := match zpL s with
 | .error (p, e) => (zjn, p, e)
 | .ok l => match zxT l with
  | .stop pos e => (zjn, pos, e)
  | .ok b _ => (b, 0, 0)
theorem zqx (s : W8) : zil s = zlr s := by
 unfold zil zlr;simp only [zvL]
 try rfl
end Go.Proofs.YtmlpcgkaonifcaaGreatDoor
namespace Go.Proofs.YtmlpcgkaonifcaaGreatDoor
open Go Go.VL
abbrev zwZ : W8 := [99, 105, 114, 99, 108, 101, 32, 114, 111, 116, 97, 116, 105, 110, 103, 32, 59, 32, 112, 101, 114, 105, 111, 100, 32, 55, 32, 100, 97, 121, 115, 32, 59, 32, 108, 97, 115, 116, 32, 51, 32, 59, 32, 100, 117, 101, 32, 49, 48, 32, 99, 111, 105, 110, 115, 32, 59, 32, 112, 97, 121, 32, 112, 111, 116, 32, 59]
def bRot : By := (zlr zwZ).1
def zcq (w b v h : Int) : By := { bRot with wait := w, backs := b, voices := v, hold := .mk bRot.hold.op h bRot.hold.unit bRot.hold.s bRot.hold.args }
theorem rv1 : zlr zwZ = (bRot, 0, 0) := by kernel_rfl
theorem sv1 : (zbp (zcq 0 0 500 0) 4 [2]).2.2.1 = 30 /\ (zbp (zcq 0 0 500 0) 4 [2]).2.2.2 = 0 := ⟨by kernel_rfl, by kernel_rfl⟩
theorem sv2 : (zbp (zcq 0 1 1000 0) 4 [2]).2.2.1 = 30 /\ (zbp (zcq 0 1 1000 0) 4 [2]).2.2.2 = 0 := ⟨by kernel_rfl, by kernel_rfl⟩
theorem sv3 : (zbp (zcq 0 1 1000 0) 4 [0, 1]).2.2.1 = 60 /\ (zbp (zcq 0 1 1000 0) 4 [0, 1]).2.2.2 = 0 := ⟨by kernel_rfl, by kernel_rfl⟩
theorem sv4 : (zbp (zcq 8 0 500 0) 4 [2]).2.2.2 = 23 := by kernel_rfl
theorem sv5 : zn6 (zcq 0 0 500 25) 4 1 = (55, 0) := by kernel_rfl
theorem sv6 : (zkK (zcq 0 0 0 0)).length = 10 := by kernel_rfl
theorem sv7 : (zd2 (zcq 0 0 500 0) 4 [1]).2 = 0 := by kernel_rfl
theorem sv8 : (zbp (zcq 0 0 500 0) 4 [2]).1.length = (zd2 (zcq 0 0 500 0) 4 [1]).1.length := by kernel_rfl
theorem sv9 : (zbp (zcq 0 0 500 0) 4 [2]).2.1.length = (zd2 (zcq 0 0 500 0) 4 [1]).1.length := by kernel_rfl
def zwh (vs : List Int) : Bool := vs.all fun v => decide (-4503599627370496 <= v) && decide (v <= 4503599627370496)
theorem sv0 : zwh (zbp (zcq 0 0 500 0) 4 [2]).1 = true := by kernel_rfl
theorem zx6 : zjv (zbp (zcq 0 0 500 0) 4 [2]).1 := fun v hv => by
 have := List.all_eq_true.1 sv0 v hv;simpa using this
theorem zzS : (if zg0 (zd2 (zcq 0 0 500 0) 4 [1]).1 (zbp (zcq 0 0 500 0) 4 [2]).1 (zbp (zcq 0 0 500 0) 4 [2]).2.1 ≠ 0 \/ 30 < (zbp (zcq 0 0 500 0) 4 [2]).1.getD 0 0 then (21 : Int) else 0) = 0 := by kernel_rfl
theorem zzR : (if zg0 (zd2 (zcq 0 0 500 0) 4 [1]).1 (zbp (zcq 0 0 500 0) 4 [2]).1 (zbp (zcq 0 0 500 0) 4 [2]).2.1 ≠ 0 \/ 29 < (zbp (zcq 0 0 500 0) 4 [2]).1.getD 0 0 then (21 : Int) else 0) = 21 := by kernel_rfl
end Go.Proofs.YtmlpcgkaonifcaaGreatDoor
namespace Go.Proofs.YtmlpcgkaonifcaaGreatDoor
open Go Go.VL
attribute [local simp] HS zbu zcZ zcp evPure opd uOf zaA St.put St.at getK binD binI binS binB nilD aggD zfv zf5 lookD lookR zcm rangeS Go.VL.nextD Go.VL.nextS zco zge zgb zfp zcv mkV zbf zaS zaR zaQ zcX zaO za8 zbt mapEff zdD ze5 Key.kk shiftI arith unD convD zdq loadD cellsAt fieldAddrD fieldD indexAddrD indexSlD arrAddr indexD sliceD cutD lenD minmaxD nilCheckD buildD fillD zbY zc2 zev setAll zcT zd9 zci zfs zch St.add zaw zbz rowsOf zdf zcx zad zac zaa zbx zc8 zaZ entry zbM zbQ valD zcl zcw zft zdb zdc zb0 zbK zal zaW zbh delAll effD St.effS zcE zaT zaG zcF zaU zaI zbV zaH zaz zbW zcC zbs zbU za5 zbS zbT zar mkD zcj zbD zbI zal zcr D.ids Op.operands Call.operands zbF makeIfD makeFuncD typeAssertD zf4 zdi zdj zfR zcn IntKind.bits zct zay List.take_of_length_le List.range_succ
attribute [local irreducible] V G H HD HD2 HD4 zg6 RetX zbg Eff CallP CallV EndOK Fun Ret FinOK LoopI LoopW EndW
theorem zpF (l : List Tok) (hl0 : 0 < l.length) (hl : TokOK l) (hl2 : l.length <= 2001) :
  RetX Tryz.prog 65 [.ptr 3 0] [(3, pOb l 0)] 4 (PPost l 3 4 byD (zvM l)) := by
 have hi : 3 < 4 := by decide
 have hne := zbm hi;have hll := hl.len;have htE : True := trivial;generalize hR : zvM l = R;rw [zvM] at hR
 (refine RetX.of_bodyW Tryz.func65 rfl (by simp) fun Γ hn hpan => ?_); simp only [zzE, zzC, zzD, Tryz.ntmps65]
 have hst : ∀ (s1 : St) (q : Nat) (pos e : Int), getK s1.obs 3 = some (pOb l q) -> 4 <= s1.next -> R = .stop pos e -> Γ.pan (chP pos e) s1 := fun s1 q pos e hg hnx hRs => by
  (refine hpan _ _ ⟨{ n := _, env := [], obs := [(3, pOb l q)], next := 4 }, (Wk.cut rfl (by simp [hn]) (by simp [wkO, zaa, getK, zab, zac, Ob.under, D.under, zaj, zak, hg, hnx]) (by simp [wkU, zax, zaa, getK, D.under, hg, hnx]) (by simp [wkE, zax, zaa, getK, hg, hnx])), by simp [hn], ?_⟩; try simp)
  exact PPost.zbe hRs
 repeat' (first
  | (refine zbw ?_; simp [hne])
  | (refine zcA ?_; simp [hne])
  | (refine zbJ ?_; simp [hne])
  | fail)
 (refine CallP.pq (zti l 0 3 _ (by first | omega | (simp <;> omega) | fail) hl0 hl) (by first | (simp [hi, hne, del, htE, zaa, getK, zab, zac]; done) | fail) (by rfl) (by first | assumption | (simp; done) | fail) (by rfl) (by simp) hR hst (by simp) fun kb q1 h1 hR2 => ?_; replace hR := hR2; clear hR2; (try simp [hi, hne, del, htE]))
 obtain ⟨_, g1⟩ := ztk hl h1 hl0;have hm := zfq l q1 [112, 101, 114, 105, 111, 100] g1 hl.len
 repeat' (first
  | (refine zbw ?_; simp [hne, del])
  | (refine zcA ?_; simp [hne, del])
  | (refine zbJ ?_; simp [hne, del])
  | (refine CallP.fun_ (hm) (by first | rfl | fail) (by first | assumption | (simp; done) | fail) (by first | (simp [hne, del]; done) | (simp [hne, del]; rfl) | fail) (by first | (simp; done) | fail) (fun d hd => ?_); subst hd; (try simp [hne, del]))
  | fail)
 (refine CallP.pq (znO l q1 [112, 101, 114, 105, 111, 100] 3 _ (by first | omega | (simp <;> omega) | fail) g1 hl) (by first | (simp [hi, hne, del, htE, zaa, getK, zab, zac]; done) | fail) (by rfl) (by first | assumption | (simp; done) | fail) (by rfl) (by simp) hR hst (by simp) fun u2 q2 h2 hR2 => ?_; replace hR := hR2; clear hR2; (try simp [hi, hne, del, htE]))
 obtain ⟨rfl, _⟩ := zqR h2
 repeat' (first
  | (refine zbw ?_; simp [hne, del])
  | (refine zcA ?_; simp [hne, del])
  | (refine zbJ ?_; simp [hne, del])
  | (refine zcY (by first | rfl | fail) ?_; simp [hne, del, frzN, frz1, zav, zau, St.frz, St.frzS, frzS, fv, za2, zbn, zbo, frzObS, zat, zan, del, frz, zbL])
  | fail)
 (refine CallP.pq (zeB l q2 [112, 101, 114, 105, 111, 100] 1 1000 [[100, 97, 121, 115], [59]] 3 _ (by first | omega | (simp <;> omega) | fail) g1 hl (by simp)) (by first | (simp [hi, hne, del, htE, zaa, getK, zab, zac]; done) | fail) (by rfl) (by first | assumption | (simp; done) | fail) (by rfl) (by simp) hR hst (by simp) fun period q3 h3 hR2 => ?_; replace hR := hR2; clear hR2; (try simp [hi, hne, del, htE]))
 obtain ⟨_, g3⟩ := zeC hl h3 g1
 repeat' (first
  | (refine zbw ?_; simp [hne, del])
  | (refine zcA ?_; simp [hne, del])
  | (refine zbJ ?_; simp [hne, del])
  | fail)
 have hm := zfq l q3 [108, 97, 115, 116] g3 hl.len
 repeat' (first
  | (refine zbw ?_; simp [hne, del])
  | (refine CallP.fun_ (hm) (by first | rfl | fail) (by first | assumption | (simp; done) | fail) (by first | (simp [hne, del]; done) | (simp [hne, del]; rfl) | fail) (by first | (simp; done) | fail) (fun d hd => ?_); subst hd; (try simp [hne, del]))
  | fail)
 (refine CallP.pq (znO l q3 [108, 97, 115, 116] 3 _ (by first | omega | (simp <;> omega) | fail) g3 hl) (by first | (simp [hi, hne, del, htE, zaa, getK, zab, zac]; done) | fail) (by rfl) (by first | assumption | (simp; done) | fail) (by rfl) (by simp) hR hst (by simp) fun u4 q4 h4 hR2 => ?_; replace hR := hR2; clear hR2; (try simp [hi, hne, del, htE]))
 obtain ⟨rfl, _⟩ := zqR h4
 repeat' (first
  | (refine zbw ?_; simp [hne, del])
  | (refine zcA ?_; simp [hne, del])
  | (refine zbJ ?_; simp [hne, del])
  | (refine zcY (by first | rfl | fail) ?_; simp [hne, del, frzN, frz1, zav, zau, St.frz, St.frzS, frzS, fv, za2, zbn, zbo, frzObS, zat, zan, del, frz, zbL])
  | fail)
 (refine CallP.pq (zeB l q4 [108, 97, 115, 116] 1 1000 [[59]] 3 _ (by first | omega | (simp <;> omega) | fail) g3 hl (by simp)) (by first | (simp [hi, hne, del, htE, zaa, getK, zab, zac]; done) | fail) (by rfl) (by first | assumption | (simp; done) | fail) (by rfl) (by simp) hR hst (by simp) fun last q5 h5 hR2 => ?_; replace hR := hR2; clear hR2; (try simp [hi, hne, del, htE]))
 obtain ⟨_, g5⟩ := zeC hl h5 g3
 repeat' (first
  | (refine zbw ?_; simp [hne, del])
  | (refine zcA ?_; simp [hne, del])
  | (refine zbJ ?_; simp [hne, del])
  | (refine zcY (by first | rfl | fail) ?_; simp [hne, del, frzN, frz1, zav, zau, St.frz, St.frzS, frzS, fv, za2, zbn, zbo, frzObS, zat, zan, del, frz, zbL])
  | fail)
 (refine CallP.pq (zeB l q5 [103, 114, 97, 99, 101] 0 1000 [[100, 97, 121, 115], [59]] 3 _ (by first | omega | (simp <;> omega) | fail) g5 hl (by simp)) (by first | (simp [hi, hne, del, htE, zaa, getK, zab, zac]; done) | fail) (by rfl) (by first | assumption | (simp; done) | fail) (by rfl) (by simp) hR hst (by simp) fun grace q6 h6 hR2 => ?_; replace hR := hR2; clear hR2; (try simp [hi, hne, del, htE]))
 obtain ⟨_, g6⟩ := zeC hl h6 g5
 repeat' (first
  | (refine zbw ?_; simp [hne, del])
  | (refine zcA ?_; simp [hne, del])
  | (refine zbJ ?_; simp [hne, del])
  | (refine zcY (by first | rfl | fail) ?_; simp [hne, del, frzN, frz1, zav, zau, St.frz, St.frzS, frzS, fv, za2, zbn, zbo, frzObS, zat, zan, del, frz, zbL])
  | fail)
 (refine CallP.pq (zeB l q6 [119, 97, 105, 116] 0 1000 [[100, 97, 121, 115], [59]] 3 _ (by first | omega | (simp <;> omega) | fail) g6 hl (by simp)) (by first | (simp [hi, hne, del, htE, zaa, getK, zab, zac]; done) | fail) (by rfl) (by first | assumption | (simp; done) | fail) (by rfl) (by simp) hR hst (by simp) fun wait q7 h7 hR2 => ?_; replace hR := hR2; clear hR2; (try simp [hi, hne, del, htE]))
 obtain ⟨_, g7⟩ := zeC hl h7 g6
 repeat' (first
  | (refine zbw ?_; simp [hne, del])
  | (refine zcA ?_; simp [hne, del])
  | (refine zbJ ?_; simp [hne, del])
  | fail)
 (refine CallP.pq (zqA l q7 3 _ (by first | omega | (simp <;> omega) | fail) g7 hl) (by first | (simp [hi, hne, del, htE, zaa, getK, zab, zac]; done) | fail) (by rfl) (by first | assumption | (simp; done) | fail) (by rfl) (by simp) hR hst (by simp) fun order q8 h8 hR2 => ?_; replace hR := hR2; clear hR2; (try simp [hi, hne, del, htE]))
 obtain ⟨_, g8⟩ := zqB hl h8 g7
 repeat' (first
  | (refine zbw ?_; simp [hne, del])
  | (refine zcA ?_; simp [hne, del])
  | (refine zbJ ?_; simp [hne, del])
  | (refine zcY (by first | rfl | fail) ?_; simp [hne, del, frzN, frz1, zav, zau, St.frz, St.frzS, frzS, fv, za2, zbn, zbo, frzObS, zat, zan, del, frz, zbL])
  | fail)
 (refine CallP.pq (zeB l q8 [98, 97, 99, 107, 115] 0 60 [[59]] 3 _ (by first | omega | (simp <;> omega) | fail) g8 hl (by simp)) (by first | (simp [hi, hne, del, htE, zaa, getK, zab, zac]; done) | fail) (by rfl) (by first | assumption | (simp; done) | fail) (by rfl) (by simp) hR hst (by simp) fun backs q9 h9 hR2 => ?_; replace hR := hR2; clear hR2; (try simp [hi, hne, del, htE]))
 obtain ⟨_, g9⟩ := zeC hl h9 g8
 repeat' (first
  | (refine zbw ?_; simp [hne, del])
  | (refine zcA ?_; simp [hne, del])
  | (refine zbJ ?_; simp [hne, del])
  | (refine zcY (by first | rfl | fail) ?_; simp [hne, del, frzN, frz1, zav, zau, St.frz, St.frzS, frzS, fv, za2, zbn, zbo, frzObS, zat, zan, del, frz, zbL])
  | fail)
 (refine CallP.pq (zeB l q9 [118, 111, 105, 99, 101, 115] 0 1000 [[112, 101, 114], [109, 105, 108, 108, 101], [59]] 3 _ (by first | omega | (simp <;> omega) | fail) g9 hl (by simp)) (by first | (simp [hi, hne, del, htE, zaa, getK, zab, zac]; done) | fail) (by rfl) (by first | assumption | (simp; done) | fail) (by rfl) (by simp) hR hst (by simp) fun voices q10 h10 hR2 => ?_; replace hR := hR2; clear hR2; (try simp [hi, hne, del, htE]))
 obtain ⟨_, g10⟩ := zeC hl h10 g9
 repeat' (first
  | (refine zbw ?_; simp [hne, del])
  | (refine zcA ?_; simp [hne, del])
  | (refine zbJ ?_; simp [hne, del])
  | (refine zcY (by first | rfl | fail) ?_; simp [hne, del, frzN, frz1, zav, zau, St.frz, St.frzS, frzS, fv, za2, zbn, zbo, frzObS, zat, zan, del, frz, zbL])
  | fail)
 (refine CallP.pq (zeB l q10 [106, 117, 114, 121] 0 60 [[59]] 3 _ (by first | omega | (simp <;> omega) | fail) g10 hl (by simp)) (by first | (simp [hi, hne, del, htE, zaa, getK, zab, zac]; done) | fail) (by rfl) (by first | assumption | (simp; done) | fail) (by rfl) (by simp) hR hst (by simp) fun jury q11 h11 hR2 => ?_; replace hR := hR2; clear hR2; (try simp [hi, hne, del, htE]))
 obtain ⟨_, g11⟩ := zeC hl h11 g10
 repeat' (first
  | (refine zbw ?_; simp [hne, del])
  | (refine zcA ?_; simp [hne, del])
  | (refine zbJ ?_; simp [hne, del])
  | (refine zcY (by first | rfl | fail) ?_; simp [hne, del, frzN, frz1, zav, zau, St.frz, St.frzS, frzS, fv, za2, zbn, zbo, frzObS, zat, zan, del, frz, zbL])
  | fail)
 (refine CallP.pq (zeB l q11 [102, 117, 110, 100] 0 1000 [[112, 101, 114], [109, 105, 108, 108, 101], [59]] 3 _ (by first | omega | (simp <;> omega) | fail) g11 hl (by simp)) (by first | (simp [hi, hne, del, htE, zaa, getK, zab, zac]; done) | fail) (by rfl) (by first | assumption | (simp; done) | fail) (by rfl) (by simp) hR hst (by simp) fun fund q12 h12 hR2 => ?_; replace hR := hR2; clear hR2; (try simp [hi, hne, del, htE]))
 obtain ⟨_, g12⟩ := zeC hl h12 g11
 repeat' (first
  | (refine zbw ?_; simp [hne, del])
  | (refine zcA ?_; simp [hne, del])
  | (refine zbJ ?_; simp [hne, del])
  | fail)
 refine zmt _ (Wk.ownC 5 _ 11 69 6 (by decide) rfl rfl) ?_;simp [St.ownC];refine zbZ (α := { x : Nat × List Let × Nat // x.1 < l.length /\ x.2.1.length + x.2.2 = 21 /\ x.2.1.length <= 20 /\ ziB l 21 q12 [] = ziB l x.2.2 x.1 x.2.1 }) [0, 2, 3] (fun x => [])
  (fun x => [(5, .box [.u (.int .i64 kb.1), .u (.int .i64 period), .u (.int .i64 grace), .u (.int .i64 wait), .u (.int .i64 last), .u (.int .i64 order), .u (.bool kb.2), .u (.int .i64 backs), .u (.int .i64 voices), .u (.int .i64 jury), .u (.int .i64 fund), .vec 14 x.1.2.1.length, .u (.int .i64 0), .u (.int .i64 0), .u (.int .i64 0), .u (.str []), .u .nil, .u (.int .i64 0), .u (.int .i64 0), .u (.int .i64 0), .u (.str []), .u .nil, .u (.int .i64 0), .u (.int .i64 0), .u (.int .i64 0), .u (.str []), .u .nil, .u (.int .i64 0), .u (.int .i64 0), .u (.int .i64 0), .u (.str []), .u .nil, .u (.int .i64 0), .u (.int .i64 0), .u (.int .i64 0), .u (.str []), .u .nil]), (14, .vec 69 6 (rowsD (zhN x.1.2.1))), (4, .box [.u (.int .i64 0), .u (.int .i64 0), .u (.int .i64 0), .u (.int .i64 0), .u (.int .i64 0), .u (.int .i64 0), .u (.bool false), .u (.int .i64 0), .u (.int .i64 0), .u (.int .i64 0), .u (.int .i64 0), .u .nil, .u (.int .i64 0), .u (.int .i64 0), .u (.int .i64 0), .u (.str []), .u .nil, .u (.int .i64 0), .u (.int .i64 0), .u (.int .i64 0), .u (.str []), .u .nil, .u (.int .i64 0), .u (.int .i64 0), .u (.int .i64 0), .u (.str []), .u .nil, .u (.int .i64 0), .u (.int .i64 0), .u (.int .i64 0), .u (.str []), .u .nil, .u (.int .i64 0), .u (.int .i64 0), .u (.int .i64 0), .u (.str []), .u .nil]), (3, pOb l x.1.1)]) 15 (fun x => x.1.2.2) ⟨(q12, [], 21), g12, rfl, by simp, rfl⟩ ?_ ?_
 ·exact (Wk.cut rfl (by simp [hn, St.lp]) (by simp [wkO, St.lp, zaa, getK, Ob.under, D.under, zaj, zak, zhN]) (by simp [wkU, St.lp, zax, zaa, getK, D.under, zhN]) (by simp [wkE, St.lp, zax, zaa, getK, zhN] <;> (try (intros; simp_all; done)) <;> (try (intros; omega)) <;> (try grind)))
 rintro ⟨⟨q, acc, g⟩, gq, hg, hg2, hS⟩;simp only at gq hg hg2 hS;simp [St.lp, St.only, zax, zaa, getK];have hm := zfq l q [108, 101, 116] gq hl.len;have hAl := zq8 acc;have hsn := zoX acc;generalize hA : zhN acc = A at *;have htk : A.take acc.length = A := List.take_of_length_le (by omega);obtain ⟨g, rfl⟩ : ∃ g', g = g' + 1 := ⟨g - 1, by omega⟩;by_cases hb : isB l q [108, 101, 116] = true
 ·have g1q := zbR hl hb;obtain ⟨t, ht⟩ : ∃ t, l[q + 1]? = some t := ⟨_, List.getElem?_eq_getElem g1q⟩;have hnx := zdk l (q + 1) t ht hl.len;rw [zoW ht, if_pos hb] at hS;rw [hS, PR.ze2] at hR;rw [hb] at hm
  repeat' (first
  | (refine zbw ?_; simp [hne, del, hAl])
  | (refine zcA ?_; simp [hne, del, hAl])
  | (refine zbJ ?_; simp [hne, del, hAl])
  | (refine zdU ?_; simp [hne, del, hAl])
  | (refine zeE ?_; simp [hne, del, hAl])
  | (refine zea ?_; simp only [zbg])
  | (refine CallP.fun_ (hm) (by first | rfl | fail) (by first | assumption | (simp; done) | fail) (by first | (simp [hne, del, hAl]; done) | (simp [hne, del, hAl]; rfl) | fail) (by first | (simp; done) | fail) (fun d hd => ?_); subst hd; (try simp [hne, del, hAl]))
  | fail)
  (refine CallP.pq (ziS l q (decide ((acc.length : Int) < 20)) 6 3 _ (by first | omega | (simp <;> omega) | fail) gq hl) (by first | (simp [hi, hne, del, zaa, getK, zab, zac]; done) | fail) (by rfl) (by first | assumption | (simp; done) | fail) (by rfl) (by simp) hR hst (by simp) fun u20 q20 h20 hR2 => ?_; replace hR := hR2; clear hR2; (try simp [hi, hne, del]))
  obtain ⟨rfl, hlt⟩ := zrK h20;rw [h20, PR.bind_ok] at hS;rw [PR.ze2] at hR;by_cases hw : t.kind = 1
  case neg =>
   have hc2 := fun e nx' (h : 15 <= nx') => zeq l (q20 + 1) t e 3 nx' (by omega) ht hl.len;have e3 : zpM l (q20 + 1) (decide (t.kind = 1) && zfc t.text) 12 = .stop t.pos 12 := by
    unfold zpM zel; rw [ht]; simp [hw]
   rw [e3, PR.zdK] at hR
   repeat' (first
  | (refine zbw ?_; simp [hne, del, hw])
  | (refine zcA ?_; simp [hne, del, hw])
  | (refine ⟨by omega, ?_⟩)
  | (refine zbJ ?_; simp [hne, del, hw])
  | (refine CallP.fun_ (hnx) (by first | rfl | fail) (by first | assumption | (simp; done) | fail) (by first | (simp [hne, del, hw]; done) | (simp [hne, del, hw]; rfl) | fail) (by first | (simp; done) | fail) (fun d hd => ?_); subst hd; (try simp [hne, del, hw]))
  | (refine CallP.zgg (hc2 _ _ (by first | omega | (simp <;> omega) | fail)) (by first | (simp [hne, del, hw, zaa, getK, zab, zac]; done) | fail) (by rfl) (by first | assumption | (simp; done) | fail) (by rfl) (by simp) ?_; rintro ob' ⟨q', rfl⟩; refine ⟨_, Wk.refl _, ?_⟩)
  | fail)
   (refine hpan _ _ ⟨{ n := _, env := [], obs := [(3, pOb l q')], next := 4 }, (Wk.cut rfl (by simp [hn]) (by simp [wkO, zaa, getK, zab, zac, Ob.under, D.under, zaj, zak, hi, hne, zab, zac, zaa, getK]) (by simp [wkU, zax, zaa, getK, D.under, hi, hne, zab, zac, zaa, getK]) (by simp [wkE, zax, zaa, getK, hi, hne, zab, zac, zaa, getK])), by simp [hn], ?_⟩; try simp)
   exact PPost.zbe hR.symm
  have hnm := zhY t.text;have e3 : (decide (t.kind = 1) && zfc t.text) = zfc t.text := by simp [hw]
  rw [e3] at hR hS;generalize zfc t.text = nb at hnm hR hS
  repeat' (first
  | (refine zbw ?_; simp [hne, del, hw])
  | (refine zcA ?_; simp [hne, del, hw])
  | (refine ⟨by omega, ?_⟩)
  | (refine zbJ ?_; simp [hne, del, hw])
  | (refine CallP.fun_ (hnx) (by first | rfl | fail) (by first | assumption | (simp; done) | fail) (by first | (simp [hne, del, hw]; done) | (simp [hne, del, hw]; rfl) | fail) (by first | (simp; done) | fail) (fun d hd => ?_); subst hd; (try simp [hne, del, hw]))
  | (refine CallP.fun_ (hnm) (by first | rfl | fail) (by first | assumption | (simp; done) | fail) (by first | (simp [hne, del, hw]; done) | (simp [hne, del, hw]; rfl) | fail) (by first | (simp; done) | fail) (fun d hd => ?_); subst hd; (try simp [hne, del, hw]))
  | fail)
  (refine CallP.pq (ziS l (q20 + 1) nb 12 3 _ (by first | omega | (simp <;> omega) | fail) g1q hl) (by first | (simp [hi, hne, del, zaa, getK, zab, zac]; done) | fail) (by rfl) (by first | assumption | (simp; done) | fail) (by rfl) (by simp) hR hst (by simp) fun u21 q21 h21 hR2 => ?_; replace hR := hR2; clear hR2; (try simp [hi, hne, del]))
  obtain ⟨rfl, hnb⟩ := zrK h21;rw [h21, PR.bind_ok] at hS;rw [PR.ze2] at hR;have htw := zp9 acc t.text;have htw : Fun Tryz.prog 28 [.u (.sl (zhN acc)), .fnc (.func 90) [.u (.row [.str t.text] 0)]] (· = .u (.bool (acc.any fun x => decide (x.name = t.text)))) := htw;rw [hA] at htw;generalize (acc.any fun x => decide (x.name = t.text)) = tb at htw hR hS
  repeat' (first
  | (refine zbw ?_; simp [hne, del, hw, htk, hAl])
  | (refine zcA ?_; simp [hne, del, hw, htk, hAl])
  | (refine zbJ ?_; simp [hne, del, hw, htk, hAl])
  | (refine CallP.fun_ (htw) (by first | rfl | fail) (by first | assumption | (simp; done) | fail) (by first | (simp [hne, del, hw, htk, hAl]; done) | (simp [hne, del, hw, htk, hAl]; rfl) | fail) (by first | (simp; done) | fail) (fun d hd => ?_); subst hd; (try simp [hne, del, hw, htk, hAl]))
  | fail)
  (refine CallP.pq (ziS l (q20 + 1) (!tb) 5 3 _ (by first | omega | (simp <;> omega) | fail) g1q hl) (by first | (simp [hi, hne, del, zaa, getK, zab, zac]; done) | fail) (by rfl) (by first | assumption | (simp; done) | fail) (by rfl) (by simp) hR hst (by simp) fun u22 q22 h22 hR2 => ?_; replace hR := hR2; clear hR2; (try simp [hi, hne, del]))
  obtain ⟨rfl, htb⟩ := zrK h22;rw [h22, PR.bind_ok] at hS;rw [PR.ze2] at hR;have g2q := hl.fin (q20 + 1) t ht (by omega)
  repeat' (first
  | (refine zbw ?_; simp [hne, del])
  | (refine zcA ?_; simp [hne, del])
  | (refine ⟨by omega, ?_⟩)
  | (refine zbJ ?_; simp [hne, del])
  | (refine zcY (by first | rfl | fail) ?_; simp [hne, del, frzN, frz1, zav, zau, St.frz, St.frzS, frzS, fv, za2, zbn, zbo, frzObS, zat, zan, del, frz, zbL])
  | fail)
  (refine CallP.pq (zgl hl [61] (q := q20 + 1 + 1) (i := 3) (by first | omega | (simp <;> omega) | fail) g2q) (by first | (simp [hi, hne, del, zaa, getK, zab, zac]; done) | fail) (by rfl) (by first | assumption | (simp; done) | fail) (by rfl) (by simp) hR hst (by simp) fun u23 q23 h23 hR2 => ?_; replace hR := hR2; clear hR2; (try simp [hi, hne, del]))
  obtain ⟨_, g23⟩ := zbA hl _ h23 g2q;rw [h23, PR.bind_ok] at hS;rw [PR.ze2] at hR;have hwh := fun nx' (h : 15 <= nx') => zh6 l q23 3 nx' (by omega) g23 hl hl2;cases hr : zfn l q23 with
  | stop pos e =>
   rw [hr, PR.zdK] at hR;simp only [hr] at hwh
   repeat' (first
  | (refine zg7 (fun nx' h' => hwh nx' (by simp at h'; omega)) (by first | (simp [hne, del, htk, hAl, zaa, getK, zab, zac, zad, zar]; done) | fail) (by rfl) (by first | assumption | simp) (by rfl) (by simp) ?_ ?_; rintro env' ob' n' hn' ⟨q', rfl⟩; refine ⟨_, Wk.refl _, ?_⟩)
  | (refine zfQ rfl (by simp) ?_; simp)
  | (refine zbP rfl ?_; simp [hne, del, htk, hAl])
  | (refine zcA ?_; simp [hne, del, htk, hAl])
  | (refine zee (hC _ (by kernel_rfl)) rfl; done)
  | (refine zeM rfl (by kernel_rfl) (by first | (simp [hn] <;> omega) | fail) fun C k hC hk => ?_; simp [hne, del, htk, hAl])
  | fail)
   (refine hpan _ _ ⟨{ n := _, env := [], obs := [(3, pOb l q')], next := 4 }, (Wk.cut rfl (by simp [hn]) (by simp [wkO, zaa, getK, zab, zac, Ob.under, D.under, zaj, zak, hi, hne, zab, zac, zaa, getK]) (by simp [wkU, zax, zaa, getK, D.under, hi, hne, zab, zac, zaa, getK]) (by simp [wkE, zax, zaa, getK, hi, hne, zab, zac, zaa, getK])), by simp [hn], ?_⟩; try simp)
   exact PPost.zbe hR.symm
  | ok e r =>
   have hwh := fun nx' h => zeo (hwh nx' h) hr;obtain ⟨_, g24⟩ := zh8 hl hr g23;rw [hr, PR.bind_ok] at hS
   repeat' (first
  | (refine zi3 (fun nx' h' => hwh nx' (by simp at h'; omega)) (by first | (simp [hne, del, htk, hAl, zaa, getK, zab, zac, zad, zar]; done) | fail) (by rfl) (by first | assumption | simp) (by rfl) (by simp [D.under, Ob.under]) (by simp) ?_; (try simp [hne, del, htk, hAl]))
  | (refine zbP rfl ?_; simp [hne, del, htk, hAl])
  | (refine zi4 rfl ?_; simp [hne, del, htk, hAl])
  | (refine zcA ?_; simp [hne, del, htk, hAl])
  | (refine ⟨by omega, ?_⟩)
  | (refine zfm (hC _ (by kernel_rfl)) (hk _ ?_); clear hC hk C k; simp only [zbg])
  | (refine zeM rfl (by kernel_rfl) (by first | (simp [hn] <;> omega) | fail) fun C k hC hk => ?_; simp [hne, del, htk, hAl])
  | fail)
   have hlt' : acc.length < 20 := by have := of_decide_eq_true hlt; omega
   refine LoopW.next ⟨(r, acc ++ [⟨t.text, e⟩], g), g24, (by simp; omega), (by simp; omega), hS⟩ (by simp) ?_
   exact (Wk.ren ((fun j => if j = 14 then 18 else j)) rfl (by first | (simp [hn]; done) | (intro i hi; rw [hn] at hi; constructor <;> (try simp) <;> (try (intro _)) <;> omega)) (by simp [zi6, St.lp, zax, zaa, getK, zac, zad, D.under, D.le, D.ren, hsn, htk] <;> (try (intros; simp_all; done)) <;> (try omega)) (by simp [wkR, St.lp, zaa, getK, zac, zad, obR, leU, zcu, za7, Ob.under, D.under, D.le, D.ren, hsn, htk] <;> (try (intros; simp_all; done)) <;> (try omega)) (by simp [hsn, htk]))
 ·rw [zq7 hb] at hS;rw [hS, PR.bind_ok] at hR;have hb2 : isB l q [108, 101, 116] = false := by simpa using hb
  rw [hb2] at hm
  repeat' (first
  | (refine zbw ?_; simp [hne, del])
  | (refine zcA ?_; simp [hne, del])
  | (refine zbJ ?_; simp [hne, del])
  | (refine zdU ?_; simp [hne, del])
  | (refine zfP ?_; simp [zbg])
  | (refine CallP.fun_ (hm) (by first | rfl | fail) (by first | assumption | (simp; done) | fail) (by first | (simp [hne, del]; done) | (simp [hne, del]; rfl) | fail) (by first | (simp; done) | fail) (fun d hd => ?_); subst hd; (try simp [hne, del]))
  | (refine zcY (by first | rfl | fail) ?_; simp [hne, del, frzN, frz1, zav, zau, St.frz, St.frzS, frzS, fv, za2, zbn, zbo, frzObS, zat, zan, del, frz, zbL])
  | fail)
  (refine CallP.pq (zgl hl [100, 117, 101] (q := q) (i := 3) (by first | omega | (simp <;> omega) | fail) gq) (by first | (simp [hi, hne, del, zaa, getK, zab, zac]; done) | fail) (by rfl) (by first | assumption | (simp; done) | fail) (by rfl) (by simp) hR hst (by simp) fun u30 q30 h30 hR2 => ?_; replace hR := hR2; clear hR2; (try simp [hi, hne, del]))
  obtain ⟨_, g30⟩ := zbA hl _ h30 gq
  repeat' (first
  | (refine zbw ?_; simp [hne, del])
  | (refine zcA ?_; simp [hne, del])
  | (refine zbJ ?_; simp [hne, del])
  | fail)
  (refine CallP.pq (zh6 l q30 3 _ (by first | omega | (simp <;> omega) | fail) g30 hl hl2) (by first | (simp [hi, hne, del, ziN, Exp.row_eq, zaa, getK, zab, zac]; done) | fail) (by rfl) (by first | assumption | (simp; done) | fail) (by rfl) (by simp) hR hst (by simp) fun due q31 h31 hR2 => ?_; replace hR := hR2; clear hR2; (try simp [hi, hne, del, ziN, Exp.row_eq]))
  obtain ⟨_, g31⟩ := zh8 hl h31 g30
  repeat' (first
  | (refine zbw ?_; simp [hne, del])
  | (refine zcA ?_; simp [hne, del])
  | (refine zbJ ?_; simp [hne, del])
  | fail)
  (refine CallP.pq (zf6 l q31 [102, 105, 110, 101] 3 _ (by first | omega | (simp <;> omega) | fail) g31 hl hl2) (by first | (simp [hi, hne, del, ziN, Exp.row_eq, zaa, getK, zab, zac]; done) | fail) (by rfl) (by first | assumption | (simp; done) | fail) (by rfl) (by simp) hR hst (by simp) fun fine q32 h32 hR2 => ?_; replace hR := hR2; clear hR2; (try simp [hi, hne, del, ziN, Exp.row_eq]))
  obtain ⟨_, g32⟩ := zf7 hl h32 g31
  repeat' (first
  | (refine zbw ?_; simp [hne, del])
  | fail)
  (refine CallP.pq (zf6 l q32 [112, 97, 121] 3 _ (by first | omega | (simp <;> omega) | fail) g32 hl hl2) (by first | (simp [hi, hne, del, ziN, Exp.row_eq, zaa, getK, zab, zac]; done) | fail) (by rfl) (by first | assumption | (simp; done) | fail) (by rfl) (by simp) hR hst (by simp) fun pay q33 h33 hR2 => ?_; replace hR := hR2; clear hR2; (try simp [hi, hne, del, ziN, Exp.row_eq]))
  obtain ⟨_, g33⟩ := zf7 hl h33 g32
  repeat' (first
  | (refine zbw ?_; simp [hne, del])
  | fail)
  (refine CallP.pq (zf6 l q33 [99, 111, 118, 101, 114] 3 _ (by first | omega | (simp <;> omega) | fail) g33 hl hl2) (by first | (simp [hi, hne, del, ziN, Exp.row_eq, zaa, getK, zab, zac]; done) | fail) (by rfl) (by first | assumption | (simp; done) | fail) (by rfl) (by simp) hR hst (by simp) fun cover q34 h34 hR2 => ?_; replace hR := hR2; clear hR2; (try simp [hi, hne, del, ziN, Exp.row_eq]))
  obtain ⟨_, g34⟩ := zf7 hl h34 g33
  repeat' (first
  | (refine zbw ?_; simp [hne, del])
  | fail)
  (refine CallP.pq (zf6 l q34 [104, 111, 108, 100] 3 _ (by first | omega | (simp <;> omega) | fail) g34 hl hl2) (by first | (simp [hi, hne, del, ziN, Exp.row_eq, zaa, getK, zab, zac]; done) | fail) (by rfl) (by first | assumption | (simp; done) | fail) (by rfl) (by simp) hR hst (by simp) fun hold q35 h35 hR2 => ?_; replace hR := hR2; clear hR2; (try simp [hi, hne, del, ziN, Exp.row_eq]))
  obtain ⟨_, g35⟩ := zf7 hl h35 g34;obtain ⟨t, ht⟩ : ∃ t, l[q35]? = some t := ⟨_, List.getElem?_eq_getElem g35⟩;have hnx := zdk l q35 t ht hl.len
  repeat' (first
  | (refine zbw ?_; simp [hne, del])
  | (refine zcA ?_; simp [hne, del])
  | (refine zbJ ?_; simp [hne, del])
  | (refine CallP.fun_ (hnx) (by first | rfl | fail) (by first | assumption | (simp; done) | fail) (by first | (simp [hne, del]; done) | (simp [hne, del]; rfl) | fail) (by first | (simp; done) | fail) (fun d hd => ?_); subst hd; (try simp [hne, del]))
  | fail)
  (refine CallP.pq (zvt ht 3 _ (by first | omega | (simp <;> omega) | fail) hl) (by first | (simp [hi, hne, del, zaa, getK, zab, zac]; done) | fail) (by rfl) (by first | assumption | (simp; done) | fail) (by rfl) (by simp) hR hst (by simp) fun u36 q36 h36 hR2 => ?_; replace hR := hR2; clear hR2; (try simp [hi, hne, del]))
  obtain rfl := zww h36
  repeat' (first
  | (refine zbw ?_; simp [hne, del])
  | (refine zcA ?_; simp [hne, del])
  | (refine zbJ ?_; simp [hne, del])
  | (refine zjl ?_; simp only [zbg])
  | fail)
  (refine EndW.frzN 1 ?_; simp [frzN, frz1, zav, zau, St.frz, St.frzS, frzS, fv, za2, zbn, zbo, frzObS, zat, zan, del, frz, zbL, hAl, htk])
  refine EndW.norm ?_;simp [St.norm, za6, zbN, zb7, zce, hne]
  (refine EndW.here ?_; (first | (refine EndOK.fin (.inr rfl) ?_) | (refine EndOK.fin (.inl rfl) ?_)); simp [zd1, zaC, Tryz.results65, hne, hi]; refine FinOK.cut [(3, pOb l q36)] (4) (by simp [zaa, getK, zab, zac, Ob.under, D.under, zaj, zak, hne, hi] <;> omega) (by simp [D.under]) (by simp [hn]) ?_; try simp)
  exact PPost.zdw hR.symm (by simp [zaF, <- hA, zhN]) rfl
end Go.Proofs.YtmlpcgkaonifcaaGreatDoor
namespace Go.Proofs.YtmlpcgkaonifcaaGreatDoor
open Go Go.VL
attribute [local simp] HS zbu zcZ zcp evPure opd uOf zaA St.put St.at getK binD binI binS binB nilD aggD zfv zf5 lookD lookR zcm rangeS Go.VL.nextD Go.VL.nextS zco zge zgb zfp zcv mkV zbf zaS zaR zaQ zcX zaO za8 zbt mapEff zdD ze5 Key.kk shiftI arith unD convD zdq loadD cellsAt fieldAddrD fieldD indexAddrD indexSlD arrAddr indexD sliceD cutD lenD minmaxD nilCheckD buildD fillD zbY zc2 zev setAll zcT zd9 zci zfs zch St.add zaw zbz rowsOf zdf zcx zad zac zaa zbx zc8 zaZ entry zbM zbQ valD zcl zcw zft zdb zdc zb0 zbK zal zaW zbh delAll effD St.effS zcE zaT zaG zcF zaU zaI zbV zaH zaz zbW zcC zbs zbU za5 zbS zbT zar mkD zcj zbD zbI zal zcr D.ids Op.operands Call.operands zbF makeIfD makeFuncD typeAssertD zf4 zdi zdj zfR zcn IntKind.bits zct zay List.take_of_length_le List.range_succ zcN zcc zcO zcI zbB zb1 zb3 zcJ zb5 zbc zb4 zb2 zg4 zcb zcL zaX zaK zcM zaY zaM zca zaL zaD zcR zcS zgB zab frzN frz1 zav zau St.frz St.frzS frzS fv za2 zbn zbo frzObS zat zan frz zbL zbk zbl zbN zb7 zce za6 St.norm St.lp St.only zax wkE wkO wkU Ob.under D.under zaj zak zcP zcd zcQ h4s zd1 zaC zbC List.zipIdx_cons List.zipIdx_nil zzC zzD Nat.zero_add
attribute [local irreducible] V G H HD HD2 HD4 zg6 RetX zbg Eff CallP CallV EndOK Fun Ret FinOK LoopI LoopW EndW HR vs2 RN Cnd H4
theorem zt9 (i j q nx : Nat) (hi : i < nx) (hj : j < nx) (hq : q < nx) (hij : i ≠ j) (hiq : i ≠ q) (hjq : j ≠ q) (p e : Int) (cells : List U) :
  RetDf Tryz.prog 63 [.ptr i 0, .ptr j 0, .ptr q 0] [(i, .box [.u (.int .i64 p)]), (j, .box [.u (.int .i64 e)]), (q, .box (cells.map .u))] nx .returning
   (fun u o n => settle u = .returning /\ n = nx /\ o = [(i, .box [.u (.int .i64 p)]), (j, .box [.u (.int .i64 e)]), (q, .box (cells.map .u))]) := by
 have hne := zbm hi;have hne2 := zbm hj;have hne3 := zbm hq;have hc0 := zng i j nx hi hj hij p e;refine RetDf.of_body Tryz.func63 rfl (by simp) (by simp) rfl fun Γ hn => ?_;simp [entry, zmI, Tryz.ntmps63];refine CallP.x2 hc0 (by simp [getK]) (by simp [getK, hij, Ne.symm hij]) hij rfl rfl (by simp) (by simp) (fun d o1 nx' hnx h => ?_) (fun ch o1 nx' hnx h => by cases h.1);obtain ⟨h1, rfl, h4⟩ := h;have h4 := h4.symm;subst h4;cases h1;simp [del, hij, Ne.symm hij, hiq, hjq, Ne.symm hiq, Ne.symm hjq]
 repeat' (first
  | (refine zaf rfl ?_; simp [hij, hiq, hjq])
  | fail)
 (refine ⟨by simp, { n := _, env := [], obs := [(i, .box [.u (.int .i64 p)]), (j, .box [.u (.int .i64 e)]), (q, .box (cells.map .u))], next := nx }, (Wk.cut rfl (by simp [hn]) (by simp [wkO, zaa, getK, zab, zac, Ob.under, D.under, zaj, zak, hi, hj, hq, hne, hne2, hne3, hij, hiq, hjq, Ne.symm hij, Ne.symm hiq, Ne.symm hjq]) (by simp [wkU, zax, zaa, getK, D.under, hi, hj, hq, hne, hne2, hne3, hij, hiq, hjq, Ne.symm hij, Ne.symm hiq, Ne.symm hjq]) (by simp [wkE, zax, zaa, getK, hi, hj, hq, hne, hne2, hne3, hij, hiq, hjq, Ne.symm hij, Ne.symm hiq, Ne.symm hjq])), by simp [hn], ?_⟩; try simp)
 all_goals rfl
theorem zua (i j q nx : Nat) (hi : i < nx) (hj : j < nx) (hq : q < nx) (hij : i ≠ j) (hiq : i ≠ q) (hjq : j ≠ q) (p e pos err : Int) :
  RetDf Tryz.prog 63 [.ptr i 0, .ptr j 0, .ptr q 0] [(i, .box [.u (.int .i64 p)]), (j, .box [.u (.int .i64 e)]), (q, zt3)] nx (.panicking (chP pos err))
   (fun u o n => settle u = .returning /\ n = nx /\ o = [(i, .box [.u (.int .i64 pos)]), (j, .box [.u (.int .i64 err)]), (q, zt3)]) := by
 have hne := zbm hi;have hne2 := zbm hj;have hne3 := zbm hq;have hc0 := znf i j nx hi hj hij p e pos err;refine RetDf.of_body Tryz.func63 rfl (by simp) (by simp) rfl fun Γ hn => ?_;simp [entry, zmI, chP, Tryz.ntmps63];refine CallP.x2 hc0 (by simp [getK]) (by simp [getK, hij, Ne.symm hij]) hij rfl rfl (by simp) (by simp) (fun d o1 nx' hnx h => ?_) (fun ch o1 nx' hnx h => by cases h.1);obtain ⟨h1, rfl, h4⟩ := h;have h4 := h4.symm;subst h4;cases h1;simp [del, hij, Ne.symm hij, hiq, hjq, Ne.symm hiq, Ne.symm hjq]
 repeat' (first
  | (refine zaf rfl ?_; simp [hij, hiq, hjq])
  | fail)
 (refine ⟨by simp, { n := _, env := [], obs := [(i, .box [.u (.int .i64 pos)]), (j, .box [.u (.int .i64 err)]), (q, zt3)], next := nx }, (Wk.cut rfl (by simp [hn]) (by simp [wkO, zaa, getK, zab, zac, Ob.under, D.under, zaj, zak, hi, hj, hq, hne, hne2, hne3, hij, hiq, hjq, Ne.symm hij, Ne.symm hiq, Ne.symm hjq]) (by simp [wkU, zax, zaa, getK, D.under, hi, hj, hq, hne, hne2, hne3, hij, hiq, hjq, Ne.symm hij, Ne.symm hiq, Ne.symm hjq]) (by simp [wkE, zax, zaa, getK, hi, hj, hq, hne, hne2, hne3, hij, hiq, hjq, Ne.symm hij, Ne.symm hiq, Ne.symm hjq])), by simp [hn], ?_⟩; try simp)
 all_goals rfl
theorem zqu (s : W8) : RetX Tryz.prog 39 [.u (.str s)] [] 0 (fun r o n => r = .val (zwI (zil s))) := by
 skip
 unfold zil;cases hlx : zpL s with
 | error pe =>
  obtain ⟨p, e⟩ := pe;have ho := fun nx => zsX s p e nx hlx;have he := (zs8 hlx).1;simp only
  (refine RetX.zga Tryz.func39 rfl (by simp) fun Γ hn hdfr hpan hesc => ?_); simp only [zzE, zzC, zzD, Tryz.ntmps39]
  repeat' (first
  | (refine zgj rfl ?_; simp [he])
  | (refine ⟨hC _ (by kernel_rfl), hk _ (zdG 0 _ _ _ ?_)⟩; clear hC hk C k; simp [he])
  | (refine zdv rfl (by kernel_rfl) (by first | (simp [hn] <;> omega) | fail) fun C k hC hk => ?_; simp [he])
  | (refine CallP.okL (ho _) (by first | (simp [he, zaa, getK, zab, zac, zad, zar, del]; done) | fail) (by rfl) (by first | assumption | (simp; done) | fail) (by rfl) (by simp) ?_; (try simp [he, zc0, del]))
  | fail)
  refine EndW.norm ?_;simp [St.norm, za6, zbN, zb7, zce]
  (refine EndW.h Tryz.results39 ?_; simp)
  simp [zwI, zaF, zjn, zh5, Exp.op, Exp.n, Exp.unit, Exp.s, Exp.args]
 | ok l =>
  obtain ⟨hl, hl2, hl0⟩ := zvb hlx;have ho := fun nx => zu0 s l nx hlx;have hE := zpF l hl0 hl hl2;simp only;cases hr : zvM l with
  | stop pos e =>
   simp only [hr] at hE ⊢
   (refine RetX.zga Tryz.func39 rfl (by simp) fun Γ hn hdfr hpan hesc => ?_); simp only [zzE, zzC, zzD, Tryz.ntmps39]
   rw [zfY]
   repeat' (first
  | (refine zgj rfl ?_; simp)
  | (refine CallP.okL (ho _) (by first | (simp [zaa, getK, zab, zac, zad, zar, del]; done) | fail) (by rfl) (by first | assumption | (simp; done) | fail) (by rfl) (by simp) ?_; (try simp [zc0, del]))
  | fail)
   refine zkO hesc hdfr rfl (by simp) ?_;have hn0 := hn;have hpan0 := hpan;intro Γ' hn hpan;simp
   repeat' (first
  | (refine zgj rfl ?_; simp)
  | (refine CallP.zgg (hE) (by first | (simp [zaa, getK, zab, zac]; done) | fail) (by rfl) (by first | assumption | (simp; done) | fail) (by rfl) (by simp) ?_; rintro ob' ⟨q', rfl⟩; refine ⟨_, Wk.refl _, ?_⟩)
  | fail)
   refine hpan _ _ ?_;refine LeaveD.of [(1, .box [.u (.int .i64 0)]), (2, .box [.u (.int .i64 0)]), (0, zt3)] (by simp [zaa, getK, zab, zac]) (zua 1 2 0 _ (by simp) (by simp) (by simp) (by decide) (by decide) (by decide) 0 0 _ _) ?_;simp only [show Γ.base.n0 = 0 from hn0];simp [zc0, del];refine EndW.norm ?_;simp [St.norm, za6, zbN, zb7, zce]
   (refine EndW.h Tryz.results39 ?_; simp)
   simp [zwI, zaF, zjn, zh5, Exp.op, Exp.n, Exp.unit, Exp.s, Exp.args]
  | ok b q =>
   have hEx : RetX Tryz.prog 65 [.ptr 3 0] [(3, pOb l 0)] 4 (fun r o n => r = .val (.u (.agg (zaF b))) /\ o = [(3, pOb l q)] /\ n = 4) := by
    rw [hr] at hE;exact hE
   unfold zaF at hEx
   (refine RetX.zga Tryz.func39 rfl (by simp) fun Γ hn hdfr hpan hesc => ?_); simp only [zzE, zzC, zzD, Tryz.ntmps39]
   rw [zfY]
   repeat' (first
  | (refine zgj rfl ?_; simp)
  | (refine CallP.okL (ho _) (by first | (simp [zaa, getK, zab, zac, zad, zar, del]; done) | fail) (by rfl) (by first | assumption | (simp; done) | fail) (by rfl) (by simp) ?_; (try simp [zc0, del]))
  | fail)
   refine zkO hesc hdfr rfl (by simp) ?_;have hn0 := hn;have hpan0 := hpan;intro Γ' hn hpan;simp
   repeat' (first
  | (refine zgj rfl ?_; simp [del])
  | (refine CallP.ok1 (hEx) (by first | (simp [del, zaa, getK, zab, zac]; done) | fail) (by rfl) (by first | assumption | (simp; done) | fail) (by rfl) (by simp) ?_; (try simp [del]))
  | fail)
   refine ⟨rfl, ?_⟩;refine LeaveD.of [(1, .box [.u (.int .i64 0)]), (2, .box [.u (.int .i64 0)]), (0, .box ((zaF b).map .u))] (by simp [zaa, getK, zab, zac, zaF]) (zt9 1 2 0 _ (by simp) (by simp) (by simp) (by decide) (by decide) (by decide) 0 0 _) ?_;simp only [show Γ.base.n0 = 0 from hn0];simp [zc0, del, zaF]
   (refine EndW.h Tryz.results39 ?_; simp)
   simp [zwI, zaF]
theorem zqv (s : W8) : Fun Tryz.prog 39 [.u (.str s)] (· = .tup [byD (zil s).1, .u (.int .i64 (zil s).2.1), .u (.int .i64 (zil s).2.2)]) := by
 unfold Fun;exact (zqu s).ret (fun d o n h => by
  cases h;exact ⟨by simp [zwI, zbC], rfl⟩) (fun ch o n h => by cases h)
theorem zrA (b : By) (c : List Int) : Fun Tryz.prog 6 [.u (.agg (zaF b)), .u (ints c)] (· = .u (.bool (zty b c))) := by
 have e0 := zm5 b.lets 2 12 (by omega) (by omega) (by omega) (by omega);have e1 := zeg b.due 12 (by omega) (by omega);have e2 := zeg b.fine 12 (by omega) (by omega);have e3 := zeg b.pay 12 (by omega) (by omega);have e4 := zeg b.cover 12 (by omega) (by omega);have e5 := zeg b.hold 12 (by omega) (by omega);simp only [zdo, zaV] at e0 e1 e2 e3 e4 e5;unfold zty;generalize zw5 b.lets 2 12 = x0 at e0 ⊢;generalize zms b.due 12 = x1 at e1 ⊢;generalize zms b.fine 12 = x2 at e2 ⊢;generalize zms b.pay 12 = x3 at e3 ⊢;generalize zms b.cover 12 = x4 at e4 ⊢;generalize zms b.hold 12 = x5 at e5 ⊢;simp only [zaF, ints];refine Fun.runW Tryz.func6 Tryz.ntmps6 rfl (by simp) fun Γ hn => ?_
 repeat' (first
  | (refine Cnd.of (fun hc => ?_) (fun hc => ?_) <;> (try (exfalso; omega)) <;> (try simp))
  | (refine zaf rfl ?_; simp)
  | ((first | refine CallP.f2 rfl (e0) (by first | simp <;> rfl | fail) ?_ | refine CallP.f2 rfl (e1) (by first | simp <;> rfl | fail) ?_ | refine CallP.f2 rfl (e2) (by first | simp <;> rfl | fail) ?_ | refine CallP.f2 rfl (e3) (by first | simp <;> rfl | fail) ?_ | refine CallP.f2 rfl (e4) (by first | simp <;> rfl | fail) ?_ | refine CallP.f2 rfl (e5) (by first | simp <;> rfl | fail) ?_ | fail); simp)
  | fail)
 all_goals
  refine EndW.norm (EndW.here ?_)
  (refine EndOK.val (.inr rfl) ?_; simp [Tryz.results6])
 all_goals (clear e0 e1 e2 e3 e4 e5; first | (simp_all; done) | (simp_all; omega))
theorem zeY (w b v h : Int) : Fun Tryz.prog 14 [.u (.int .i64 w), .u (.int .i64 b), .u (.int .i64 v), .u (.int .i64 h)] (· = .u (.agg (zaF (zcq w b v h)))) := by
 have h1 := zqv zwZ;rw [zqx, show zlr zwZ = (bRot, 0, 0) from rv1] at h1;simp only [byD, zaF, zcq, Exp.op, Exp.n, Exp.unit, Exp.s, Exp.args] at h1 ⊢;generalize bRot = B at *;refine Fun.runW Tryz.func14 Tryz.ntmps14 rfl (by simp) fun Γ hn => ?_
 repeat' (first
  | (refine zaf rfl ?_; simp)
  | (refine CallP.f2 rfl (h1) (by first | simp <;> rfl | fail) ?_; simp)
  | fail)
 refine EndW.norm (EndW.here ?_)
 (refine EndOK.val (.inr rfl) ?_; simp [Tryz.results14])
theorem zmD : Fun Tryz.prog 5 [] (· = .u (.bool true)) := by
 have l1 := zeY 0 0 500 0;have l2 := zeY 0 1 1000 0;have l3 := zeY 0 0 500 25;have l4 := zeY 8 0 500 0;have l5 := zeY 0 0 0 0;have p1 := zeP (zcq 0 0 500 0) 4 [2] (by decide);have p2 := zeP (zcq 0 1 1000 0) 4 [2] (by decide);have p3 := zeP (zcq 0 1 1000 0) 4 [0, 1] (by decide);have p4 := zrB (zcq 0 0 500 25) 4 1;have p5 := zeP (zcq 8 0 500 0) 4 [2] (by decide);have c1 := ziT (zcq 0 0 500 0) 4 [1] (zbp (zcq 0 0 500 0) 4 [2]).1 (zbp (zcq 0 0 500 0) 4 [2]).2.1 30 (by decide) sv7 sv8 sv9 zx6;have c2 := ziT (zcq 0 0 500 0) 4 [1] (zbp (zcq 0 0 500 0) 4 [2]).1 (zbp (zcq 0 0 500 0) 4 [2]).2.1 29 (by decide) sv7 sv8 sv9 zx6;have k1 := zni (zcq 0 0 0 0);have k2 := sv6;rw [zzS] at c1;rw [zzR] at c2;rw [sv2.1, sv2.2] at p2;rw [sv3.1, sv3.2] at p3;rw [sv5] at p4;rw [sv4] at p5;rw [sv1.1, sv1.2] at p1;generalize (zbp (zcq 0 0 500 0) 4 [2]).1 = V1 at *;generalize (zbp (zcq 0 0 500 0) 4 [2]).2.1 = C1 at *;generalize (zbp (zcq 0 1 1000 0) 4 [2]).1 = V2 at *;generalize (zbp (zcq 0 1 1000 0) 4 [2]).2.1 = C2 at *;generalize (zbp (zcq 0 1 1000 0) 4 [0, 1]).1 = V3 at *;generalize (zbp (zcq 0 1 1000 0) 4 [0, 1]).2.1 = C3 at *;generalize (zbp (zcq 8 0 500 0) 4 [2]).1 = V4 at *;generalize (zbp (zcq 8 0 500 0) 4 [2]).2.1 = C4 at *;generalize (zbp (zcq 8 0 500 0) 4 [2]).2.2.1 = B4 at *;generalize zkK (zcq 0 0 0 0) = K at *;generalize zaF (zcq 0 0 500 0) = B1 at *;generalize zaF (zcq 0 1 1000 0) = B2 at *;generalize zaF (zcq 0 0 500 25) = B3 at *;generalize zaF (zcq 8 0 500 0) = B8 at *;generalize zaF (zcq 0 0 0 0) = B5 at *;simp only [ints, Df.consU, zzC, zzD] at *;refine Fun.runW Tryz.func5 Tryz.ntmps5 rfl (by simp) fun Γ hn => ?_
 repeat' (first
  | (refine zgj rfl ?_; simp [k2])
  | (refine ⟨hC _ (by kernel_rfl), hk _ (zdG 8 _ _ _ ?_)⟩; clear hC hk C k; simp [k2])
  | (refine zdv rfl (by kernel_rfl) (by first | (simp [hn] <;> omega) | fail) fun C k hC hk => ?_; simp [k2])
  | (refine zcB rfl ?_; simp [k2])
  | (refine zdh rfl ?_; simp [k2])
  | ((first | refine CallP.f2 rfl (l1) (by first | simp [k2] <;> rfl | fail) ?_ | refine CallP.f2 rfl (l2) (by first | simp [k2] <;> rfl | fail) ?_ | refine CallP.f2 rfl (l3) (by first | simp [k2] <;> rfl | fail) ?_ | refine CallP.f2 rfl (l4) (by first | simp [k2] <;> rfl | fail) ?_ | refine CallP.f2 rfl (l5) (by first | simp [k2] <;> rfl | fail) ?_ | refine CallP.f2 rfl (p1) (by first | simp [k2] <;> rfl | fail) ?_ | refine CallP.f2 rfl (p2) (by first | simp [k2] <;> rfl | fail) ?_ | refine CallP.f2 rfl (p3) (by first | simp [k2] <;> rfl | fail) ?_ | refine CallP.f2 rfl (p4) (by first | simp [k2] <;> rfl | fail) ?_ | refine CallP.f2 rfl (p5) (by first | simp [k2] <;> rfl | fail) ?_ | refine CallP.f2 rfl (c1) (by first | simp [k2] <;> rfl | fail) ?_ | refine CallP.f2 rfl (c2) (by first | simp [k2] <;> rfl | fail) ?_ | refine CallP.f2 rfl (k1) (by first | simp [k2] <;> rfl | fail) ?_ | fail); simp [k2])
  | ((first | refine CallV.f2 rfl (l1) (by first | simp [k2] <;> rfl | fail) ?_ | refine CallV.f2 rfl (l2) (by first | simp [k2] <;> rfl | fail) ?_ | refine CallV.f2 rfl (l3) (by first | simp [k2] <;> rfl | fail) ?_ | refine CallV.f2 rfl (l4) (by first | simp [k2] <;> rfl | fail) ?_ | refine CallV.f2 rfl (l5) (by first | simp [k2] <;> rfl | fail) ?_ | refine CallV.f2 rfl (p1) (by first | simp [k2] <;> rfl | fail) ?_ | refine CallV.f2 rfl (p2) (by first | simp [k2] <;> rfl | fail) ?_ | refine CallV.f2 rfl (p3) (by first | simp [k2] <;> rfl | fail) ?_ | refine CallV.f2 rfl (p4) (by first | simp [k2] <;> rfl | fail) ?_ | refine CallV.f2 rfl (p5) (by first | simp [k2] <;> rfl | fail) ?_ | refine CallV.f2 rfl (c1) (by first | simp [k2] <;> rfl | fail) ?_ | refine CallV.f2 rfl (c2) (by first | simp [k2] <;> rfl | fail) ?_ | refine CallV.f2 rfl (k1) (by first | simp [k2] <;> rfl | fail) ?_ | fail); simp [k2])
  | fail)
 refine EndW.norm (EndW.here ?_)
 (refine EndOK.val (.inr rfl) ?_; simp [Tryz.results5])
end Go.Proofs.YtmlpcgkaonifcaaGreatDoor
namespace Go.Proofs.YtmlpcgkaonifcaaGreatDoor
open Go Go.VL
open Df (SolveSpec)
attribute [local simp] HS zbu zcZ zcp evPure opd uOf zaA St.put St.at getK binD binI binS binB nilD aggD zfv zf5 lookD lookR zcm rangeS Go.VL.nextD Go.VL.nextS zco zge zgb zfp zcv mkV zbf zaS zaR zaQ zcX zaO za8 zbt mapEff zdD ze5 Key.kk shiftI arith unD convD zdq loadD cellsAt fieldAddrD fieldD indexAddrD indexSlD arrAddr indexD sliceD cutD lenD minmaxD nilCheckD buildD fillD zbY zc2 zev setAll zcT zd9 zci zfs zch St.add zaw zbz rowsOf zdf zcx zad zac zaa zbx zc8 zaZ entry zbM zbQ valD zcl zcw zft zdb zdc zb0 zbK zal zaW zbh delAll effD St.effS zcE zaT zaG zcF zaU zaI zbV zaH zaz zbW zcC zbs zbU za5 zbS zbT zar mkD zcj zbD zbI zal zcr D.ids Op.operands Call.operands zbF makeIfD makeFuncD typeAssertD zf4 zdi zdj zfR zcn IntKind.bits zct zay List.take_of_length_le List.range_succ zcN zcc zcO zcI zbB zb1 zb3 zcJ zb5 zbc zb4 zb2 zg4 zcb zcL zaX zaK zcM zaY zaM zca zaL zaD zcR zcS zgB zab frzN frz1 zav zau St.frz St.frzS frzS fv za2 zbn zbo frzObS zat zan frz zbL zbk zbl zbN zb7 zce za6 St.norm St.lp St.only zax wkE wkO wkU Ob.under D.under zaj zak zcP zcd zcQ h4s zd1 zaC zbC List.zipIdx_cons List.zipIdx_nil zzC zzD Nat.zero_add
attribute [local irreducible] V G H HD HD2 HD4 zg6 RetX zbg Eff CallP CallV EndOK Fun Ret FinOK LoopI LoopW EndW HR vs2 RN Cnd H4
theorem zsQ (b : By) (m : Int) (c : List Int) : Fun Tryz.prog 4 [.u (.agg (zaF b)), .u (.int .i64 m), .u (ints c)] (· = .u (.bool true)) := by
 have hs := zmD;have hf := zrA b c;cases hF : zty b c with
 | false =>
  rw [hF] at hf;simp only [zaF, ints] at hf ⊢;refine Fun.runW Tryz.func4 Tryz.ntmps4 rfl (by simp) fun Γ hn => ?_
  repeat' (first
  | (refine zaf rfl ?_; simp)
  | ((first | refine CallP.f2 rfl (hs) (by first | simp <;> rfl | fail) ?_ | refine CallP.f2 rfl (hf) (by first | simp <;> rfl | fail) ?_ | fail); simp)
  | fail)
  refine EndW.norm (EndW.here ?_)
  (refine EndOK.val (.inr rfl) ?_; simp [Tryz.results4])
 | true =>
 rw [hF] at hf;have hc9 : c.length <= 9 := by unfold zty at hF; simp at hF; omega
 clear hF;have hk := zni b;have hr := ze8 b;cases hR : zc1 b with
 | false =>
  rw [hR] at hr;have hcl : zkK b = [] := by unfold zkK; rw [if_neg (by simp [hR])]
  rw [hcl] at hk;simp only [zaF, ints, Df.consU, zzD] at hf hk hr ⊢;refine Fun.runW Tryz.func4 Tryz.ntmps4 rfl (by simp) fun Γ hn => ?_
  repeat' (first
  | (refine zaf rfl ?_; simp)
  | ((first | refine CallP.f2 rfl (hs) (by first | simp <;> rfl | fail) ?_ | refine CallP.f2 rfl (hf) (by first | simp <;> rfl | fail) ?_ | refine CallP.f2 rfl (hk) (by first | simp <;> rfl | fail) ?_ | refine CallP.f2 rfl (hr) (by first | simp <;> rfl | fail) ?_ | fail); simp)
  | fail)
  refine EndW.norm (EndW.here ?_)
  (refine EndOK.val (.inr rfl) ?_; simp [Tryz.results4])
 | true =>
 rw [hR] at hr;obtain ⟨V, C, E, hS, hso⟩ := Df.solve_ex (zkK b) 5 (by have := zkJ b; show 6 * (5 * _) <= _; omega);have hE := zma hR hS;have hch := Df.check_fun (zkK b) 5 (zhQ b);rw [zr1 hR] at hch;have hp := zeP b m c (by omega);have hpr := zoD (b := b) (m := m) (c := c);obtain ⟨_, h2, _, _, h3, h4⟩ := zdd hR;have hcl := zkJ b;have hroom : zhJ b = (decide (b.wait <= b.period) && decide (b.grace <= b.period)) := rfl;generalize zkK b = K at *;generalize (zbp b m c).1 = W1 at *;generalize (zbp b m c).2.1 = W2 at *;generalize (zbp b m c).2.2.1 = W3 at *;generalize (zbp b m c).2.2.2 = W4 at *;clear hS hR;cases hB : zhJ b with
 | true =>
  rw [hB] at hroom hch hE;rw [if_pos rfl] at hE;subst hE;have g1 : b.wait <= b.period /\ b.grace <= b.period := by simpa using hroom.symm
  obtain ⟨g1, g2⟩ := g1;simp only [zaF, ints, Df.ints, Df.consU, zhQ, zzC, zzD] at *;refine Fun.runW Tryz.func4 Tryz.ntmps4 rfl (by simp) fun Γ hn => ?_
  repeat' (first
  | (refine zaf rfl ?_; simp [g1, g2])
  | (refine And.intro (by omega) ?_)
  | ((first | refine CallP.f2 rfl (hs) (by first | simp [g1, g2] <;> rfl | fail) ?_ | refine CallP.f2 rfl (hf) (by first | simp [g1, g2] <;> rfl | fail) ?_ | refine CallP.f2 rfl (hk) (by first | simp [g1, g2] <;> rfl | fail) ?_ | refine CallP.f2 rfl (hr) (by first | simp [g1, g2] <;> rfl | fail) ?_ | refine CallP.f2 rfl (hso) (by first | simp [g1, g2] <;> rfl | fail) ?_ | refine CallP.f2 rfl (hch) (by first | simp [g1, g2] <;> rfl | fail) ?_ | refine CallP.f2 rfl (hp) (by first | simp [g1, g2] <;> rfl | fail) ?_ | fail); simp [g1, g2])
  | fail)
  refine EndW.norm (EndW.here ?_)
  (refine EndOK.val (.inr rfl) ?_; simp [Tryz.results4])
 | false =>
  have g4 := hpr hB;rw [hB] at hroom hch hE;rw [if_neg (by simp)] at hE;subst hE;by_cases g1 : b.wait <= b.period
  ·have g2 : ¬ b.grace <= b.period := by simpa [g1] using hroom.symm
   simp only [zaF, ints, Df.ints, Df.consU, zhQ, zzC, zzD] at *;refine Fun.runW Tryz.func4 Tryz.ntmps4 rfl (by simp) fun Γ hn => ?_
   repeat' (first
  | (refine zaf rfl ?_; simp [g1, g2, g4])
  | (refine And.intro (by omega) ?_)
  | ((first | refine CallP.f2 rfl (hs) (by first | simp [g1, g2, g4] <;> rfl | fail) ?_ | refine CallP.f2 rfl (hf) (by first | simp [g1, g2, g4] <;> rfl | fail) ?_ | refine CallP.f2 rfl (hk) (by first | simp [g1, g2, g4] <;> rfl | fail) ?_ | refine CallP.f2 rfl (hr) (by first | simp [g1, g2, g4] <;> rfl | fail) ?_ | refine CallP.f2 rfl (hso) (by first | simp [g1, g2, g4] <;> rfl | fail) ?_ | refine CallP.f2 rfl (hch) (by first | simp [g1, g2, g4] <;> rfl | fail) ?_ | refine CallP.f2 rfl (hp) (by first | simp [g1, g2, g4] <;> rfl | fail) ?_ | fail); simp [g1, g2, g4])
  | fail)
   refine EndW.norm (EndW.here ?_)
   (refine EndOK.val (.inr rfl) ?_; simp [Tryz.results4])
  ·simp only [zaF, ints, Df.ints, Df.consU, zhQ, zzC, zzD] at *;refine Fun.runW Tryz.func4 Tryz.ntmps4 rfl (by simp) fun Γ hn => ?_
   repeat' (first
  | (refine zaf rfl ?_; simp [g1, g4])
  | (refine And.intro (by omega) ?_)
  | ((first | refine CallP.f2 rfl (hs) (by first | simp [g1, g4] <;> rfl | fail) ?_ | refine CallP.f2 rfl (hf) (by first | simp [g1, g4] <;> rfl | fail) ?_ | refine CallP.f2 rfl (hk) (by first | simp [g1, g4] <;> rfl | fail) ?_ | refine CallP.f2 rfl (hr) (by first | simp [g1, g4] <;> rfl | fail) ?_ | refine CallP.f2 rfl (hso) (by first | simp [g1, g4] <;> rfl | fail) ?_ | refine CallP.f2 rfl (hch) (by first | simp [g1, g4] <;> rfl | fail) ?_ | refine CallP.f2 rfl (hp) (by first | simp [g1, g4] <;> rfl | fail) ?_ | fail); simp [g1, g4])
  | fail)
   refine EndW.norm (EndW.here ?_)
   (refine EndOK.val (.inr rfl) ?_; simp [Tryz.results4])
end Go.Proofs.YtmlpcgkaonifcaaGreatDoor
