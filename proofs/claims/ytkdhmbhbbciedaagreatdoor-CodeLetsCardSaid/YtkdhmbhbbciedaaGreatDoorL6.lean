import Derived.Test.YtkdhmbhbbciedaaGreatDoorL5
set_option linter.all false
set_option maxRecDepth 100000
set_option maxHeartbeats 8000000
namespace Go.Proofs.YtkdhmbhbbciedaaGreatDoor
open Go Go.VL
attribute [local simp] HS zaY zcB zbz evPure opd uOf zal St.put St.at getK binD binI binS binB nilD aggD zeS zfd lookD lookR zbE rangeS Go.VL.nextD Go.VL.nextS zbJ zfk zfe zeu zb7 mkV zaZ zcH zaL za1 mapEff zdw zek Key.kk shiftI arith unD convD zcP loadD cellsAt fieldAddrD fieldD indexAddrD indexSlD arrAddr indexD sliceD cutD lenD minmaxD nilCheckD buildD fillD zbn zcC zd1 setAll zcx zdZ zbD zeO zbC St.add zaj za6 rowsOf zcI zca zad zac zaa zaQ zcs zaG entry za2 za3 valD zbK zcq zeL zcD zcE zbp zbo zag zaB za0 delAll effD St.effS zb4 zaD zas zb5 zaE zau zbl zat zan zbm zb2 zaW zbj zaJ zbi zah mkD zbd za4 zbb zag zbN D.ids Op.operands Call.operands za5 makeIfD makeFuncD typeAssertD zfc zcL zcM zeY zbG IntKind.bits zbQ zam List.take_of_length_le List.range_succ zci zbx zcj zcd za7 zbq zbs zce zbu zaP zbt zbr zfJ zbw zcg zaH zav zch zaI zax zbv zaw zaq zcm zcn zfH zab frzN frz1 zaO zaN St.frz St.frzS frzS fv zbI zbV zcb zaM zay zao frz zcc zbH zbS zbT zaX St.norm St.lp St.only zaS wkE wkO wkU Ob.under D.under zai zap zck zby zcl h4s zdG zar zaV List.zipIdx_cons List.zipIdx_nil List.map_cons List.map_nil Nat.zero_add
attribute [local irreducible] V G H HD HD2 HD4 zgA RetX zaT Eff CallP CallV EndOK Fun Ret FinOK LoopI LoopW EndW HR vs2 RN Cnd H4
abbrev zkx (e : Exp × Int) : D := .tup [.u (.agg e.1.row), .u (.int .i64 e.2)]
def zgS (l : List Tok) (f : Nat) : Prop := ∀ (p : Nat) (form : Int) (i nx : Nat), i < nx -> p < l.length -> 4 * (l.length - p) + 3 <= f -> 0 <= form -> form <= 7 ->
 RetX Tryz.prog 106 [.ptr i 0, zp0 form] [(i, pOb l p)] nx (PPost l i nx zpi (ze9 l f p form))
def zs9 (l : List Tok) (f : Nat) : Prop := ∀ (p : Nat) (form : Int) (i nx : Nat), i < nx -> p < l.length -> 4 * (l.length - p) + 2 <= f -> 0 <= form -> form <= 7 ->
 RetX Tryz.prog 139 [.ptr i 0, zp0 form] [(i, pOb l p)] nx (PPost l i nx zkx (zbX l f p form))
def zi9 (l : List Tok) (f : Nat) : Prop := ∀ (p : Nat) (i nx : Nat), i < nx -> p < l.length -> 4 * (l.length - p) + 1 <= f ->
 RetX Tryz.prog 170 [.ptr i 0] [(i, pOb l p)] nx (PPost l i nx zpi (zbc l f p))
theorem zm1 {l : List Tok} (hl : TokOK l) (w : List UInt8) {q i nx : Nat} (hi : i < nx) (hq : q < l.length) :
  RetX Tryz.prog 169 [.ptr i 0, .u (.sl [[.str w]])] [(i, pOb l q)] nx (PPost l i nx (fun _ => .tup []) (zdv l q [w])) := zme l q [w] i nx hi hq hl (by simp)
theorem zlu {l : List Tok} (hl : TokOK l) {f p : Nat} {t : Tok} (ht : l[p]? = some t) (hk : t.kind = 2) {i nx : Nat} (hi : i < nx) :
  RetX Tryz.prog 170 [.ptr i 0] [(i, pOb l p)] nx (PPost l i nx zpi (zbc l (f + 1) p)) := by
 have hne := zbg hi;have hp := (List.getElem?_eq_some_iff.1 ht).1;have hnx := zdm l p t ht hl.len;have hp2 := hl.fin p t ht (by omega);have hll := hl.len;rw [zbc, ht];simp only [hk, if_true] at hnx ⊢;have hu := fun nx' (h : nx <= nx') => zp4 l (p + 1) i nx' (by omega) hp2 hl;cases hr : zm2 l (p + 1) with
 | ok a q =>
  simp only [hr] at hu;refine RetX.runW Tryz.func170 Tryz.ntmps170 rfl (by simp) fun Γ hn hpan => ?_
  repeat' (first
  | (refine zjZ (fun nx' h' => hu nx' (by simp at h'; omega)) (by first | (simp [hne, zaa, getK, zab, zac, zad, zah]; done) | fail) (by rfl) (by first | assumption | simp) (by rfl) (by simp [D.under, Ob.under]) (by simp) ?_; (try simp [hne]))
  | (refine zaf rfl ?_; simp [hne])
  | (refine And.intro (by omega) ?_)
  | (refine ⟨hC _ (zdo [i] nx (by simp <;> omega) (by simp <;> omega) (by apply Exists.intro; apply And.intro; (focus (repeat' (first | exact KF.nil | exact KL.nil | apply KF.cons | apply KL.cons 0 rfl | apply KL.cons 1 rfl | apply KL.cons 2 rfl | apply KL.cons 3 rfl | apply KL.cons 4 rfl | apply KL.cons 5 rfl | apply KL.cons 6 rfl | apply KL.cons 7 rfl | apply KL.cons 8 rfl | apply KL.cons 9 rfl))); kernel_rfl)), hk _ (zel 8 _ _ _ ?_)⟩; clear hC hk C k; simp [hne])
  | (refine zeW rfl (by kernel_rfl) (by first | (simp [hn]; done) | (simp [hn]; omega) | fail) fun C k hC hk => ?_; simp [hne])
  | (refine zc7 rfl ?_; simp [hne])
  | (refine CallP.f2 rfl (hnx) (by first | simp [hne] <;> rfl | fail) ?_; simp [hne])
  | fail)
  refine EndW.norm ?_;simp [St.norm, zaX, zbH, zbS, zbT, hne]
  (refine EndW.z ([(i, pOb l q)]) (N := nx) Tryz.results170 (by simp [hne, hi] <;> omega) ?_; simp [hne, hi])
  exact PPost.zeA rfl (by simp [Exp.row]) rfl
 | stop pos e =>
  simp only [hr] at hu;refine RetX.runW Tryz.func170 Tryz.ntmps170 rfl (by simp) fun Γ hn hpan => ?_
  repeat' (first
  | (refine zg6 (fun nx' h' => hu nx' (by simp at h'; omega)) (by first | (simp [hne, zaa, getK, zab, zac, zad, zah]; done) | fail) (by rfl) (by first | assumption | simp) (by rfl) (by simp) ?_ ?_; rintro env' ob' n' hn' ⟨q', rfl⟩; refine ⟨_, Wk.refl _, ?_⟩)
  | (refine zf9 rfl (by simp) ?_; simp)
  | (refine zaf rfl ?_; simp [hne])
  | (refine And.intro (by omega) ?_)
  | (refine zg7 (hC _ (zdo [i] nx (by simp <;> omega) (by simp <;> omega) (by apply Exists.intro; apply And.intro; (focus (repeat' (first | exact KF.nil | exact KL.nil | apply KF.cons | apply KL.cons 0 rfl | apply KL.cons 1 rfl | apply KL.cons 2 rfl | apply KL.cons 3 rfl | apply KL.cons 4 rfl | apply KL.cons 5 rfl | apply KL.cons 6 rfl | apply KL.cons 7 rfl | apply KL.cons 8 rfl | apply KL.cons 9 rfl))); kernel_rfl))) rfl; done)
  | (refine zeW rfl (by kernel_rfl) (by first | (simp [hn]; done) | (simp [hn]; omega) | fail) fun C k hC hk => ?_; simp [hne])
  | (refine CallP.f2 rfl (hnx) (by first | simp [hne] <;> rfl | fail) ?_; simp [hne])
  | fail)
  (refine hpan _ _ (PanG.k ([(i, pOb l q')]) (nx) (by simp [hn, hi, hne, zab, zac, zaa, getK] <;> omega) ?_); try simp)
  exact PPost.zb1 (by simp [PR.bind])
theorem zkm {l : List Tok} (hl : TokOK l) {f p : Nat} {t : Tok} (ht : l[p]? = some t) (hk : ¬ t.kind = 2) (h1 : isB l p [116, 114, 117, 101] = true) {i nx : Nat} (hi : i < nx) :
  RetX Tryz.prog 170 [.ptr i 0] [(i, pOb l p)] nx (PPost l i nx zpi (zbc l (f + 1) p)) := by
 have hne := zbg hi;have hp := (List.getElem?_eq_some_iff.1 ht).1;have hnx := zdm l p t ht hl.len;have hll := hl.len;rw [zbc, ht];have hh1 := fun nx' (h : nx <= nx') => zcp l p [116, 114, 117, 101] i nx' (by omega) hp hl.len;simp only [hk, h1, if_false, if_true] at hh1 ⊢;refine RetX.runW Tryz.func170 Tryz.ntmps170 rfl (by simp) fun Γ hn hpan => ?_
 repeat' (first
  | (refine zaf rfl ?_; simp [hne, hk, del])
  | (refine CallP.f2 rfl (hnx) (by first | simp [hne, hk, del] <;> rfl | fail) ?_; simp [hne, hk, del])
  | (refine CallP.ok1 (hh1 _ (by first | omega | (simp; done) | (simp; omega) | fail)) (by first | (simp [hne, hk, del, zaa, getK, zab, zac]; done) | fail) (by rfl) (by first | assumption | (simp; done) | fail) (by rfl) (by simp) ?_; (try simp [hne, hk, del]))
  | fail)
 refine EndW.norm ?_;simp [St.norm, zaX, zbH, zbS, zbT, hne]
 (refine EndW.z ([(i, pOb l (p + 1))]) (N := nx) Tryz.results170 (by simp [hne, hi] <;> omega) ?_; simp [hne, hi])
 exact PPost.zeA rfl (by simp [Exp.row]) rfl
theorem zjk {l : List Tok} (hl : TokOK l) {f p : Nat} {t : Tok} (ht : l[p]? = some t) (hk : ¬ t.kind = 2) (h1 : isB l p [116, 114, 117, 101] = false) (h2 : isB l p [102, 97, 108, 115, 101] = true) {i nx : Nat} (hi : i < nx) :
  RetX Tryz.prog 170 [.ptr i 0] [(i, pOb l p)] nx (PPost l i nx zpi (zbc l (f + 1) p)) := by
 have hne := zbg hi;have hp := (List.getElem?_eq_some_iff.1 ht).1;have hnx := zdm l p t ht hl.len;have hll := hl.len;rw [zbc, ht];have hh1 := fun nx' (h : nx <= nx') => zcp l p [116, 114, 117, 101] i nx' (by omega) hp hl.len;have hh2 := fun nx' (h : nx <= nx') => zcp l p [102, 97, 108, 115, 101] i nx' (by omega) hp hl.len;simp only [hk, h1, h2, if_false, if_true, Bool.false_eq_true] at hh1 hh2 ⊢;refine RetX.runW Tryz.func170 Tryz.ntmps170 rfl (by simp) fun Γ hn hpan => ?_
 repeat' (first
  | (refine zaf rfl ?_; simp [hne, hk, del])
  | (refine CallP.f2 rfl (hnx) (by first | simp [hne, hk, del] <;> rfl | fail) ?_; simp [hne, hk, del])
  | (refine CallP.ok1 (hh1 _ (by first | omega | (simp; done) | (simp; omega) | fail)) (by first | (simp [hne, hk, del, zaa, getK, zab, zac]; done) | fail) (by rfl) (by first | assumption | (simp; done) | fail) (by rfl) (by simp) ?_; (try simp [hne, hk, del]))
  | (refine CallP.ok1 (hh2 _ (by first | omega | (simp; done) | (simp; omega) | fail)) (by first | (simp [hne, hk, del, zaa, getK, zab, zac]; done) | fail) (by rfl) (by first | assumption | (simp; done) | fail) (by rfl) (by simp) ?_; (try simp [hne, hk, del]))
  | fail)
 refine EndW.norm ?_;simp [St.norm, zaX, zbH, zbS, zbT, hne]
 (refine EndW.z ([(i, pOb l (p + 1))]) (N := nx) Tryz.results170 (by simp [hne, hi] <;> omega) ?_; simp [hne, hi])
 exact PPost.zeA rfl (by simp [Exp.row]) rfl
theorem zev {l : List Tok} {F : FuncId} {r : PR Exp} {e : Exp} {q i nx : Nat} {ds : List D} {obs : List (Nat × Ob)} (h : RetX Tryz.prog F ds obs nx (PPost l i nx zpi r)) (hr : r = .ok e q) :
  RetX Tryz.prog F ds obs nx fun r o n => r = .val (.u (.agg [.int .i64 e.op, .int .i64 e.n, .int .i64 e.unit, .str e.s, .sl (e.args.map Exp.row)])) /\ o = [(i, pOb l q)] /\ n = nx := by
 subst hr;rw [<- Exp.row_eq];exact h
theorem zjj {l : List Tok} (hl : TokOK l) {f p : Nat} (hE : zgS l f) (hf : 4 * (l.length - p) <= f) {t : Tok} (ht : l[p]? = some t) (hk : ¬ t.kind = 2) (h1 : isB l p [116, 114, 117, 101] = false) (h2 : isB l p [102, 97, 108, 115, 101] = false)
  (h3 : isB l p [109, 105, 110] = false) (h4 : isB l p [109, 97, 120] = false) (h5 : isB l p [40] = true) {i nx : Nat} (hi : i < nx) :
  RetX Tryz.prog 170 [.ptr i 0] [(i, pOb l p)] nx (PPost l i nx zpi (zbc l (f + 1) p)) := by
 have hne := zbg hi;have hp := (List.getElem?_eq_some_iff.1 ht).1;have hnx := zdm l p t ht hl.len;have hll := hl.len;have hp2 := zcA hl h5;rw [zbc, ht];have hh1 := fun nx' (h : nx <= nx') => zcp l p [116, 114, 117, 101] i nx' (by omega) hp hl.len;have hh2 := fun nx' (h : nx <= nx') => zcp l p [102, 97, 108, 115, 101] i nx' (by omega) hp hl.len;have hm1 := zgI l p [109, 105, 110] hp hl.len;have hm2 := zgI l p [109, 97, 120] hp hl.len;have hh3 := fun nx' (h : nx <= nx') => zcp l p [40] i nx' (by omega) hp hl.len;simp only [hk, h1, h2, h3, h4, h5, if_false, if_true, Bool.false_eq_true, or_self] at hh1 hh2 hm1 hm2 hh3 ⊢;have he := fun nx' (h : nx <= nx') => hE (p + 1) 0 i nx' (by omega) hp2 (by omega) (by omega) (by omega);cases hr : ze9 l f (p + 1) 0 with
 | stop pos e =>
  simp only [hr] at he;refine RetX.runW Tryz.func170 Tryz.ntmps170 rfl (by simp) fun Γ hn hpan => ?_
  repeat' (first
  | (refine zaf rfl ?_; simp [hne, hk, del, Nat.add_assoc])
  | ((first | refine CallP.f2 rfl (hnx) (by first | simp [hne, hk, del, Nat.add_assoc] <;> rfl | fail) ?_ | refine CallP.f2 rfl (hm1) (by first | simp [hne, hk, del, Nat.add_assoc] <;> rfl | fail) ?_ | refine CallP.f2 rfl (hm2) (by first | simp [hne, hk, del, Nat.add_assoc] <;> rfl | fail) ?_ | fail); simp [hne, hk, del, Nat.add_assoc])
  | (refine CallP.ok1 (hh1 _ (by first | omega | (simp; done) | (simp; omega) | fail)) (by first | (simp [hne, hk, del, Nat.add_assoc, zaa, getK, zab, zac]; done) | fail) (by rfl) (by first | assumption | (simp; done) | fail) (by rfl) (by simp) ?_; (try simp [hne, hk, del, Nat.add_assoc]))
  | (refine CallP.ok1 (hh2 _ (by first | omega | (simp; done) | (simp; omega) | fail)) (by first | (simp [hne, hk, del, Nat.add_assoc, zaa, getK, zab, zac]; done) | fail) (by rfl) (by first | assumption | (simp; done) | fail) (by rfl) (by simp) ?_; (try simp [hne, hk, del, Nat.add_assoc]))
  | (refine CallP.ok1 (hh3 _ (by first | omega | (simp; done) | (simp; omega) | fail)) (by first | (simp [hne, hk, del, Nat.add_assoc, zaa, getK, zab, zac]; done) | fail) (by rfl) (by first | assumption | (simp; done) | fail) (by rfl) (by simp) ?_; (try simp [hne, hk, del, Nat.add_assoc]))
  | (refine CallP.zg8 (he _ (by first | omega | (simp; done) | (simp; omega) | fail)) (by first | (simp [hne, hk, del, Nat.add_assoc, zaa, getK, zab, zac]; done) | fail) (by rfl) (by first | assumption | (simp; done) | fail) (by rfl) (by simp) ?_; rintro ob' ⟨q', rfl⟩; refine ⟨_, Wk.refl _, ?_⟩)
  | fail)
  (refine hpan _ _ (PanG.k ([(i, pOb l q')]) (nx) (by simp [hn, hi, hne, zab, zac, zaa, getK] <;> omega) ?_); try simp)
  exact PPost.zb1 (by simp [PR.bind, *])
 | ok e1 q1 =>
  have he := fun nx' h => zev (he nx' h) hr;obtain ⟨g1, g2⟩ := (zdn hl f).1 _ _ _ _ hr hp2;have hw := fun nx' (h : nx <= nx') => zm1 hl [41] (q := q1) (i := i) (nx := nx') (by omega) g2;cases hr2 : zdv l q1 [[41]] with
  | stop pos e =>
   simp only [hr2] at hw;refine RetX.runW Tryz.func170 Tryz.ntmps170 rfl (by simp) fun Γ hn hpan => ?_
   repeat' (first
  | (refine zaf rfl ?_; simp [hne, hk, del, Nat.add_assoc])
  | ((first | refine CallP.f2 rfl (hnx) (by first | simp [hne, hk, del, Nat.add_assoc] <;> rfl | fail) ?_ | refine CallP.f2 rfl (hm1) (by first | simp [hne, hk, del, Nat.add_assoc] <;> rfl | fail) ?_ | refine CallP.f2 rfl (hm2) (by first | simp [hne, hk, del, Nat.add_assoc] <;> rfl | fail) ?_ | fail); simp [hne, hk, del, Nat.add_assoc])
  | (refine CallP.ok1 (hh1 _ (by first | omega | (simp; done) | (simp; omega) | fail)) (by first | (simp [hne, hk, del, Nat.add_assoc, zaa, getK, zab, zac]; done) | fail) (by rfl) (by first | assumption | (simp; done) | fail) (by rfl) (by simp) ?_; (try simp [hne, hk, del, Nat.add_assoc]))
  | (refine CallP.ok1 (hh2 _ (by first | omega | (simp; done) | (simp; omega) | fail)) (by first | (simp [hne, hk, del, Nat.add_assoc, zaa, getK, zab, zac]; done) | fail) (by rfl) (by first | assumption | (simp; done) | fail) (by rfl) (by simp) ?_; (try simp [hne, hk, del, Nat.add_assoc]))
  | (refine CallP.ok1 (hh3 _ (by first | omega | (simp; done) | (simp; omega) | fail)) (by first | (simp [hne, hk, del, Nat.add_assoc, zaa, getK, zab, zac]; done) | fail) (by rfl) (by first | assumption | (simp; done) | fail) (by rfl) (by simp) ?_; (try simp [hne, hk, del, Nat.add_assoc]))
  | (refine CallP.ok1 (he _ (by first | omega | (simp; done) | (simp; omega) | fail)) (by first | (simp [hne, hk, del, Nat.add_assoc, zaa, getK, zab, zac]; done) | fail) (by rfl) (by first | assumption | (simp; done) | fail) (by rfl) (by simp) ?_; (try simp [hne, hk, del, Nat.add_assoc]))
  | (refine CallP.zg8 (hw _ (by first | omega | (simp; done) | (simp; omega) | fail)) (by first | (simp [hne, hk, del, Nat.add_assoc, zaa, getK, zab, zac]; done) | fail) (by rfl) (by first | assumption | (simp; done) | fail) (by rfl) (by simp) ?_; rintro ob' ⟨q', rfl⟩; refine ⟨_, Wk.refl _, ?_⟩)
  | (refine zbM (by first | rfl | fail) ?_; simp [hne, hk, del, Nat.add_assoc, frzN, frz1, zaO, zaN, St.frz, St.frzS, frzS, fv, zbI, zbV, zcb, zaM, zay, zao, del, frz, zcc])
  | fail)
   (refine hpan _ _ (PanG.k ([(i, pOb l q')]) (nx) (by simp [hn, hi, hne, zab, zac, zaa, getK] <;> omega) ?_); try simp)
   exact PPost.zb1 (by simp [PR.bind, *])
  | ok u2 q =>
   simp only [hr2] at hw;refine RetX.runW Tryz.func170 Tryz.ntmps170 rfl (by simp) fun Γ hn hpan => ?_
   repeat' (first
  | (refine zaf rfl ?_; simp [hne, hk, del, Nat.add_assoc])
  | ((first | refine CallP.f2 rfl (hnx) (by first | simp [hne, hk, del, Nat.add_assoc] <;> rfl | fail) ?_ | refine CallP.f2 rfl (hm1) (by first | simp [hne, hk, del, Nat.add_assoc] <;> rfl | fail) ?_ | refine CallP.f2 rfl (hm2) (by first | simp [hne, hk, del, Nat.add_assoc] <;> rfl | fail) ?_ | fail); simp [hne, hk, del, Nat.add_assoc])
  | (refine CallP.ok1 (hh1 _ (by first | omega | (simp; done) | (simp; omega) | fail)) (by first | (simp [hne, hk, del, Nat.add_assoc, zaa, getK, zab, zac]; done) | fail) (by rfl) (by first | assumption | (simp; done) | fail) (by rfl) (by simp) ?_; (try simp [hne, hk, del, Nat.add_assoc]))
  | (refine CallP.ok1 (hh2 _ (by first | omega | (simp; done) | (simp; omega) | fail)) (by first | (simp [hne, hk, del, Nat.add_assoc, zaa, getK, zab, zac]; done) | fail) (by rfl) (by first | assumption | (simp; done) | fail) (by rfl) (by simp) ?_; (try simp [hne, hk, del, Nat.add_assoc]))
  | (refine CallP.ok1 (hh3 _ (by first | omega | (simp; done) | (simp; omega) | fail)) (by first | (simp [hne, hk, del, Nat.add_assoc, zaa, getK, zab, zac]; done) | fail) (by rfl) (by first | assumption | (simp; done) | fail) (by rfl) (by simp) ?_; (try simp [hne, hk, del, Nat.add_assoc]))
  | (refine CallP.ok1 (he _ (by first | omega | (simp; done) | (simp; omega) | fail)) (by first | (simp [hne, hk, del, Nat.add_assoc, zaa, getK, zab, zac]; done) | fail) (by rfl) (by first | assumption | (simp; done) | fail) (by rfl) (by simp) ?_; (try simp [hne, hk, del, Nat.add_assoc]))
  | (refine CallP.ok1 (hw _ (by first | omega | (simp; done) | (simp; omega) | fail)) (by first | (simp [hne, hk, del, Nat.add_assoc, zaa, getK, zab, zac]; done) | fail) (by rfl) (by first | assumption | (simp; done) | fail) (by rfl) (by simp) ?_; (try simp [hne, hk, del, Nat.add_assoc]))
  | (refine zbM (by first | rfl | fail) ?_; simp [hne, hk, del, Nat.add_assoc, frzN, frz1, zaO, zaN, St.frz, St.frzS, frzS, fv, zbI, zbV, zcb, zaM, zay, zao, del, frz, zcc])
  | fail)
   refine EndW.norm ?_;simp [St.norm, zaX, zbH, zbS, zbT, hne]
   (refine EndW.z ([(i, pOb l q)]) (N := nx) Tryz.results170 (by simp [hne, hi] <;> omega) ?_; simp [hne, hi])
   exact PPost.zeA (by simp [PR.bind, *]; rfl) (by simp [Exp.row_eq]) rfl
theorem ziA {l : List Tok} (hl : TokOK l) {f p : Nat} (hE : zgS l f) (hf : 4 * (l.length - p) <= f) {t : Tok} (ht : l[p]? = some t) (hk : ¬ t.kind = 2) (h1 : isB l p [116, 114, 117, 101] = false) (h2 : isB l p [102, 97, 108, 115, 101] = false)
  (hm : isB l p [109, 105, 110] = false /\ isB l p [109, 97, 120] = true \/ isB l p [109, 105, 110] = true /\ isB l p [109, 97, 120] = false) {i nx : Nat} (hi : i < nx) :
  RetX Tryz.prog 170 [.ptr i 0] [(i, pOb l p)] nx (PPost l i nx zpi (zbc l (f + 1) p)) := by
 have hne := zbg hi;have hp := (List.getElem?_eq_some_iff.1 ht).1;have hnx := zdm l p t ht hl.len;have hll := hl.len;have hp2 : p + 1 < l.length := hm.elim (fun h => zcA hl h.2) (fun h => zcA hl h.1);rw [zbc, ht];have hh1 := fun nx' (h : nx <= nx') => zcp l p [116, 114, 117, 101] i nx' (by omega) hp hl.len;have hh2 := fun nx' (h : nx <= nx') => zcp l p [102, 97, 108, 115, 101] i nx' (by omega) hp hl.len;have hm1 := zgI l p [109, 105, 110] hp hl.len;have hm2 := zgI l p [109, 97, 120] hp hl.len;rcases hm with ⟨h3, h4⟩ | ⟨h3, h4⟩
 all_goals
  simp only [hk, h1, h2, h3, h4, if_false, if_true, Bool.false_eq_true, or_true, true_or] at hh1 hh2 hm1 hm2 ⊢;have hw1 := fun nx' (h : nx <= nx') => zm1 hl [40] (q := (p + 1)) (i := i) (nx := nx') (by omega) hp2;cases hr0 : zdv l (p + 1) [[40]] with
  | stop pos e =>
   simp only [hr0] at hw1;refine RetX.runW Tryz.func170 Tryz.ntmps170 rfl (by simp) fun Γ hn hpan => ?_
   repeat' (first
  | (refine zaf rfl ?_; simp [hne, hk, del, Nat.add_assoc])
  | (refine And.intro (by omega) ?_)
  | ((first | refine CallP.f2 rfl (hnx) (by first | simp [hne, hk, del, Nat.add_assoc] <;> rfl | fail) ?_ | refine CallP.f2 rfl (hm1) (by first | simp [hne, hk, del, Nat.add_assoc] <;> rfl | fail) ?_ | refine CallP.f2 rfl (hm2) (by first | simp [hne, hk, del, Nat.add_assoc] <;> rfl | fail) ?_ | fail); simp [hne, hk, del, Nat.add_assoc])
  | (refine CallP.ok1 (hh1 _ (by first | omega | (simp; done) | (simp; omega) | fail)) (by first | (simp [hne, hk, del, Nat.add_assoc, zaa, getK, zab, zac]; done) | fail) (by rfl) (by first | assumption | (simp; done) | fail) (by rfl) (by simp) ?_; (try simp [hne, hk, del, Nat.add_assoc]))
  | (refine CallP.ok1 (hh2 _ (by first | omega | (simp; done) | (simp; omega) | fail)) (by first | (simp [hne, hk, del, Nat.add_assoc, zaa, getK, zab, zac]; done) | fail) (by rfl) (by first | assumption | (simp; done) | fail) (by rfl) (by simp) ?_; (try simp [hne, hk, del, Nat.add_assoc]))
  | (refine CallP.zg8 (hw1 _ (by first | omega | (simp; done) | (simp; omega) | fail)) (by first | (simp [hne, hk, del, Nat.add_assoc, zaa, getK, zab, zac]; done) | fail) (by rfl) (by first | assumption | (simp; done) | fail) (by rfl) (by simp) ?_; rintro ob' ⟨q', rfl⟩; refine ⟨_, Wk.refl _, ?_⟩)
  | (refine zbM (by first | rfl | fail) ?_; simp [hne, hk, del, Nat.add_assoc, frzN, frz1, zaO, zaN, St.frz, St.frzS, frzS, fv, zbI, zbV, zcb, zaM, zay, zao, del, frz, zcc])
  | fail)
   (refine hpan _ _ (PanG.k ([(i, pOb l q')]) (nx) (by simp [hn, hi, hne, zab, zac, zaa, getK] <;> omega) ?_); try simp)
   exact PPost.zb1 (by simp [PR.bind, *])
  | ok v0 q0 =>
   simp only [hr0] at hw1;obtain ⟨g0a, g0b⟩ := zcr hl _ hr0 hp2;have ha := fun nx' (h : nx <= nx') => hE q0 0 i nx' (by omega) g0b (by omega) (by omega) (by omega);cases hr1 : ze9 l f q0 0 with
   | stop pos e =>
    simp only [hr1] at ha;refine RetX.runW Tryz.func170 Tryz.ntmps170 rfl (by simp) fun Γ hn hpan => ?_
    repeat' (first
  | (refine zaf rfl ?_; simp [hne, hk, del, Nat.add_assoc])
  | (refine And.intro (by omega) ?_)
  | ((first | refine CallP.f2 rfl (hnx) (by first | simp [hne, hk, del, Nat.add_assoc] <;> rfl | fail) ?_ | refine CallP.f2 rfl (hm1) (by first | simp [hne, hk, del, Nat.add_assoc] <;> rfl | fail) ?_ | refine CallP.f2 rfl (hm2) (by first | simp [hne, hk, del, Nat.add_assoc] <;> rfl | fail) ?_ | fail); simp [hne, hk, del, Nat.add_assoc])
  | (refine CallP.ok1 (hh1 _ (by first | omega | (simp; done) | (simp; omega) | fail)) (by first | (simp [hne, hk, del, Nat.add_assoc, zaa, getK, zab, zac]; done) | fail) (by rfl) (by first | assumption | (simp; done) | fail) (by rfl) (by simp) ?_; (try simp [hne, hk, del, Nat.add_assoc]))
  | (refine CallP.ok1 (hh2 _ (by first | omega | (simp; done) | (simp; omega) | fail)) (by first | (simp [hne, hk, del, Nat.add_assoc, zaa, getK, zab, zac]; done) | fail) (by rfl) (by first | assumption | (simp; done) | fail) (by rfl) (by simp) ?_; (try simp [hne, hk, del, Nat.add_assoc]))
  | (refine CallP.ok1 (hw1 _ (by first | omega | (simp; done) | (simp; omega) | fail)) (by first | (simp [hne, hk, del, Nat.add_assoc, zaa, getK, zab, zac]; done) | fail) (by rfl) (by first | assumption | (simp; done) | fail) (by rfl) (by simp) ?_; (try simp [hne, hk, del, Nat.add_assoc]))
  | (refine CallP.zg8 (ha _ (by first | omega | (simp; done) | (simp; omega) | fail)) (by first | (simp [hne, hk, del, Nat.add_assoc, zaa, getK, zab, zac]; done) | fail) (by rfl) (by first | assumption | (simp; done) | fail) (by rfl) (by simp) ?_; rintro ob' ⟨q', rfl⟩; refine ⟨_, Wk.refl _, ?_⟩)
  | (refine zbM (by first | rfl | fail) ?_; simp [hne, hk, del, Nat.add_assoc, frzN, frz1, zaO, zaN, St.frz, St.frzS, frzS, fv, zbI, zbV, zcb, zaM, zay, zao, del, frz, zcc])
  | fail)
    (refine hpan _ _ (PanG.k ([(i, pOb l q')]) (nx) (by simp [hn, hi, hne, zab, zac, zaa, getK] <;> omega) ?_); try simp)
    exact PPost.zb1 (by simp [PR.bind, *])
   | ok v1 q1 =>
    have ha := fun nx' h => zev (ha nx' h) hr1;obtain ⟨g1a, g1b⟩ := (zdn hl f).1 _ _ _ _ hr1 g0b;have hw2 := fun nx' (h : nx <= nx') => zm1 hl [44] (q := q1) (i := i) (nx := nx') (by omega) g1b;cases hr2 : zdv l q1 [[44]] with
    | stop pos e =>
     simp only [hr2] at hw2;refine RetX.runW Tryz.func170 Tryz.ntmps170 rfl (by simp) fun Γ hn hpan => ?_
     repeat' (first
  | (refine zaf rfl ?_; simp [hne, hk, del, Nat.add_assoc])
  | (refine And.intro (by omega) ?_)
  | ((first | refine CallP.f2 rfl (hnx) (by first | simp [hne, hk, del, Nat.add_assoc] <;> rfl | fail) ?_ | refine CallP.f2 rfl (hm1) (by first | simp [hne, hk, del, Nat.add_assoc] <;> rfl | fail) ?_ | refine CallP.f2 rfl (hm2) (by first | simp [hne, hk, del, Nat.add_assoc] <;> rfl | fail) ?_ | fail); simp [hne, hk, del, Nat.add_assoc])
  | (refine CallP.ok1 (hh1 _ (by first | omega | (simp; done) | (simp; omega) | fail)) (by first | (simp [hne, hk, del, Nat.add_assoc, zaa, getK, zab, zac]; done) | fail) (by rfl) (by first | assumption | (simp; done) | fail) (by rfl) (by simp) ?_; (try simp [hne, hk, del, Nat.add_assoc]))
  | (refine CallP.ok1 (hh2 _ (by first | omega | (simp; done) | (simp; omega) | fail)) (by first | (simp [hne, hk, del, Nat.add_assoc, zaa, getK, zab, zac]; done) | fail) (by rfl) (by first | assumption | (simp; done) | fail) (by rfl) (by simp) ?_; (try simp [hne, hk, del, Nat.add_assoc]))
  | (refine CallP.ok1 (hw1 _ (by first | omega | (simp; done) | (simp; omega) | fail)) (by first | (simp [hne, hk, del, Nat.add_assoc, zaa, getK, zab, zac]; done) | fail) (by rfl) (by first | assumption | (simp; done) | fail) (by rfl) (by simp) ?_; (try simp [hne, hk, del, Nat.add_assoc]))
  | (refine CallP.ok1 (ha _ (by first | omega | (simp; done) | (simp; omega) | fail)) (by first | (simp [hne, hk, del, Nat.add_assoc, zaa, getK, zab, zac]; done) | fail) (by rfl) (by first | assumption | (simp; done) | fail) (by rfl) (by simp) ?_; (try simp [hne, hk, del, Nat.add_assoc]))
  | (refine CallP.zg8 (hw2 _ (by first | omega | (simp; done) | (simp; omega) | fail)) (by first | (simp [hne, hk, del, Nat.add_assoc, zaa, getK, zab, zac]; done) | fail) (by rfl) (by first | assumption | (simp; done) | fail) (by rfl) (by simp) ?_; rintro ob' ⟨q', rfl⟩; refine ⟨_, Wk.refl _, ?_⟩)
  | (refine zbM (by first | rfl | fail) ?_; simp [hne, hk, del, Nat.add_assoc, frzN, frz1, zaO, zaN, St.frz, St.frzS, frzS, fv, zbI, zbV, zcb, zaM, zay, zao, del, frz, zcc])
  | fail)
     (refine hpan _ _ (PanG.k ([(i, pOb l q')]) (nx) (by simp [hn, hi, hne, zab, zac, zaa, getK] <;> omega) ?_); try simp)
     exact PPost.zb1 (by simp [PR.bind, *])
    | ok v2 q2 =>
     simp only [hr2] at hw2;obtain ⟨g2a, g2b⟩ := zcr hl _ hr2 g1b;have hb := fun nx' (h : nx <= nx') => hE q2 0 i nx' (by omega) g2b (by omega) (by omega) (by omega);cases hr3 : ze9 l f q2 0 with
     | stop pos e =>
      simp only [hr3] at hb;refine RetX.runW Tryz.func170 Tryz.ntmps170 rfl (by simp) fun Γ hn hpan => ?_
      repeat' (first
  | (refine zaf rfl ?_; simp [hne, hk, del, Nat.add_assoc])
  | (refine And.intro (by omega) ?_)
  | ((first | refine CallP.f2 rfl (hnx) (by first | simp [hne, hk, del, Nat.add_assoc] <;> rfl | fail) ?_ | refine CallP.f2 rfl (hm1) (by first | simp [hne, hk, del, Nat.add_assoc] <;> rfl | fail) ?_ | refine CallP.f2 rfl (hm2) (by first | simp [hne, hk, del, Nat.add_assoc] <;> rfl | fail) ?_ | fail); simp [hne, hk, del, Nat.add_assoc])
  | (refine CallP.ok1 (hh1 _ (by first | omega | (simp; done) | (simp; omega) | fail)) (by first | (simp [hne, hk, del, Nat.add_assoc, zaa, getK, zab, zac]; done) | fail) (by rfl) (by first | assumption | (simp; done) | fail) (by rfl) (by simp) ?_; (try simp [hne, hk, del, Nat.add_assoc]))
  | (refine CallP.ok1 (hh2 _ (by first | omega | (simp; done) | (simp; omega) | fail)) (by first | (simp [hne, hk, del, Nat.add_assoc, zaa, getK, zab, zac]; done) | fail) (by rfl) (by first | assumption | (simp; done) | fail) (by rfl) (by simp) ?_; (try simp [hne, hk, del, Nat.add_assoc]))
  | (refine CallP.ok1 (hw1 _ (by first | omega | (simp; done) | (simp; omega) | fail)) (by first | (simp [hne, hk, del, Nat.add_assoc, zaa, getK, zab, zac]; done) | fail) (by rfl) (by first | assumption | (simp; done) | fail) (by rfl) (by simp) ?_; (try simp [hne, hk, del, Nat.add_assoc]))
  | (refine CallP.ok1 (ha _ (by first | omega | (simp; done) | (simp; omega) | fail)) (by first | (simp [hne, hk, del, Nat.add_assoc, zaa, getK, zab, zac]; done) | fail) (by rfl) (by first | assumption | (simp; done) | fail) (by rfl) (by simp) ?_; (try simp [hne, hk, del, Nat.add_assoc]))
  | (refine CallP.ok1 (hw2 _ (by first | omega | (simp; done) | (simp; omega) | fail)) (by first | (simp [hne, hk, del, Nat.add_assoc, zaa, getK, zab, zac]; done) | fail) (by rfl) (by first | assumption | (simp; done) | fail) (by rfl) (by simp) ?_; (try simp [hne, hk, del, Nat.add_assoc]))
  | (refine CallP.zg8 (hb _ (by first | omega | (simp; done) | (simp; omega) | fail)) (by first | (simp [hne, hk, del, Nat.add_assoc, zaa, getK, zab, zac]; done) | fail) (by rfl) (by first | assumption | (simp; done) | fail) (by rfl) (by simp) ?_; rintro ob' ⟨q', rfl⟩; refine ⟨_, Wk.refl _, ?_⟩)
  | (refine zbM (by first | rfl | fail) ?_; simp [hne, hk, del, Nat.add_assoc, frzN, frz1, zaO, zaN, St.frz, St.frzS, frzS, fv, zbI, zbV, zcb, zaM, zay, zao, del, frz, zcc])
  | fail)
      (refine hpan _ _ (PanG.k ([(i, pOb l q')]) (nx) (by simp [hn, hi, hne, zab, zac, zaa, getK] <;> omega) ?_); try simp)
      exact PPost.zb1 (by simp [PR.bind, *])
     | ok v3 q3 =>
      have hb := fun nx' h => zev (hb nx' h) hr3;obtain ⟨g3a, g3b⟩ := (zdn hl f).1 _ _ _ _ hr3 g2b;have hw3 := fun nx' (h : nx <= nx') => zm1 hl [41] (q := q3) (i := i) (nx := nx') (by omega) g3b;cases hr4 : zdv l q3 [[41]] with
      | stop pos e =>
       simp only [hr4] at hw3;refine RetX.runW Tryz.func170 Tryz.ntmps170 rfl (by simp) fun Γ hn hpan => ?_
       repeat' (first
  | (refine zaf rfl ?_; simp [hne, hk, del, Nat.add_assoc])
  | (refine And.intro (by omega) ?_)
  | ((first | refine CallP.f2 rfl (hnx) (by first | simp [hne, hk, del, Nat.add_assoc] <;> rfl | fail) ?_ | refine CallP.f2 rfl (hm1) (by first | simp [hne, hk, del, Nat.add_assoc] <;> rfl | fail) ?_ | refine CallP.f2 rfl (hm2) (by first | simp [hne, hk, del, Nat.add_assoc] <;> rfl | fail) ?_ | fail); simp [hne, hk, del, Nat.add_assoc])
  | (refine CallP.ok1 (hh1 _ (by first | omega | (simp; done) | (simp; omega) | fail)) (by first | (simp [hne, hk, del, Nat.add_assoc, zaa, getK, zab, zac]; done) | fail) (by rfl) (by first | assumption | (simp; done) | fail) (by rfl) (by simp) ?_; (try simp [hne, hk, del, Nat.add_assoc]))
  | (refine CallP.ok1 (hh2 _ (by first | omega | (simp; done) | (simp; omega) | fail)) (by first | (simp [hne, hk, del, Nat.add_assoc, zaa, getK, zab, zac]; done) | fail) (by rfl) (by first | assumption | (simp; done) | fail) (by rfl) (by simp) ?_; (try simp [hne, hk, del, Nat.add_assoc]))
  | (refine CallP.ok1 (hw1 _ (by first | omega | (simp; done) | (simp; omega) | fail)) (by first | (simp [hne, hk, del, Nat.add_assoc, zaa, getK, zab, zac]; done) | fail) (by rfl) (by first | assumption | (simp; done) | fail) (by rfl) (by simp) ?_; (try simp [hne, hk, del, Nat.add_assoc]))
  | (refine CallP.ok1 (ha _ (by first | omega | (simp; done) | (simp; omega) | fail)) (by first | (simp [hne, hk, del, Nat.add_assoc, zaa, getK, zab, zac]; done) | fail) (by rfl) (by first | assumption | (simp; done) | fail) (by rfl) (by simp) ?_; (try simp [hne, hk, del, Nat.add_assoc]))
  | (refine CallP.ok1 (hw2 _ (by first | omega | (simp; done) | (simp; omega) | fail)) (by first | (simp [hne, hk, del, Nat.add_assoc, zaa, getK, zab, zac]; done) | fail) (by rfl) (by first | assumption | (simp; done) | fail) (by rfl) (by simp) ?_; (try simp [hne, hk, del, Nat.add_assoc]))
  | (refine CallP.ok1 (hb _ (by first | omega | (simp; done) | (simp; omega) | fail)) (by first | (simp [hne, hk, del, Nat.add_assoc, zaa, getK, zab, zac]; done) | fail) (by rfl) (by first | assumption | (simp; done) | fail) (by rfl) (by simp) ?_; (try simp [hne, hk, del, Nat.add_assoc]))
  | (refine CallP.zg8 (hw3 _ (by first | omega | (simp; done) | (simp; omega) | fail)) (by first | (simp [hne, hk, del, Nat.add_assoc, zaa, getK, zab, zac]; done) | fail) (by rfl) (by first | assumption | (simp; done) | fail) (by rfl) (by simp) ?_; rintro ob' ⟨q', rfl⟩; refine ⟨_, Wk.refl _, ?_⟩)
  | (refine zbM (by first | rfl | fail) ?_; simp [hne, hk, del, Nat.add_assoc, frzN, frz1, zaO, zaN, St.frz, St.frzS, frzS, fv, zbI, zbV, zcb, zaM, zay, zao, del, frz, zcc])
  | fail)
       (refine hpan _ _ (PanG.k ([(i, pOb l q')]) (nx) (by simp [hn, hi, hne, zab, zac, zaa, getK] <;> omega) ?_); try simp)
       exact PPost.zb1 (by simp [PR.bind, *])
      | ok v4 q4 =>
       simp only [hr4] at hw3;obtain ⟨g4a, g4b⟩ := zcr hl _ hr4 g3b;refine RetX.runW Tryz.func170 Tryz.ntmps170 rfl (by simp) fun Γ hn hpan => ?_
       repeat' (first
  | (refine zaf rfl ?_; simp [hne, hk, del, Nat.add_assoc])
  | (refine And.intro (by omega) ?_)
  | ((first | refine CallP.f2 rfl (hnx) (by first | simp [hne, hk, del, Nat.add_assoc] <;> rfl | fail) ?_ | refine CallP.f2 rfl (hm1) (by first | simp [hne, hk, del, Nat.add_assoc] <;> rfl | fail) ?_ | refine CallP.f2 rfl (hm2) (by first | simp [hne, hk, del, Nat.add_assoc] <;> rfl | fail) ?_ | fail); simp [hne, hk, del, Nat.add_assoc])
  | (refine CallP.ok1 (hh1 _ (by first | omega | (simp; done) | (simp; omega) | fail)) (by first | (simp [hne, hk, del, Nat.add_assoc, zaa, getK, zab, zac]; done) | fail) (by rfl) (by first | assumption | (simp; done) | fail) (by rfl) (by simp) ?_; (try simp [hne, hk, del, Nat.add_assoc]))
  | (refine CallP.ok1 (hh2 _ (by first | omega | (simp; done) | (simp; omega) | fail)) (by first | (simp [hne, hk, del, Nat.add_assoc, zaa, getK, zab, zac]; done) | fail) (by rfl) (by first | assumption | (simp; done) | fail) (by rfl) (by simp) ?_; (try simp [hne, hk, del, Nat.add_assoc]))
  | (refine CallP.ok1 (hw1 _ (by first | omega | (simp; done) | (simp; omega) | fail)) (by first | (simp [hne, hk, del, Nat.add_assoc, zaa, getK, zab, zac]; done) | fail) (by rfl) (by first | assumption | (simp; done) | fail) (by rfl) (by simp) ?_; (try simp [hne, hk, del, Nat.add_assoc]))
  | (refine CallP.ok1 (ha _ (by first | omega | (simp; done) | (simp; omega) | fail)) (by first | (simp [hne, hk, del, Nat.add_assoc, zaa, getK, zab, zac]; done) | fail) (by rfl) (by first | assumption | (simp; done) | fail) (by rfl) (by simp) ?_; (try simp [hne, hk, del, Nat.add_assoc]))
  | (refine CallP.ok1 (hw2 _ (by first | omega | (simp; done) | (simp; omega) | fail)) (by first | (simp [hne, hk, del, Nat.add_assoc, zaa, getK, zab, zac]; done) | fail) (by rfl) (by first | assumption | (simp; done) | fail) (by rfl) (by simp) ?_; (try simp [hne, hk, del, Nat.add_assoc]))
  | (refine CallP.ok1 (hb _ (by first | omega | (simp; done) | (simp; omega) | fail)) (by first | (simp [hne, hk, del, Nat.add_assoc, zaa, getK, zab, zac]; done) | fail) (by rfl) (by first | assumption | (simp; done) | fail) (by rfl) (by simp) ?_; (try simp [hne, hk, del, Nat.add_assoc]))
  | (refine CallP.ok1 (hw3 _ (by first | omega | (simp; done) | (simp; omega) | fail)) (by first | (simp [hne, hk, del, Nat.add_assoc, zaa, getK, zab, zac]; done) | fail) (by rfl) (by first | assumption | (simp; done) | fail) (by rfl) (by simp) ?_; (try simp [hne, hk, del, Nat.add_assoc]))
  | (refine zbM (by first | rfl | fail) ?_; simp [hne, hk, del, Nat.add_assoc, frzN, frz1, zaO, zaN, St.frz, St.frzS, frzS, fv, zbI, zbV, zcb, zaM, zay, zao, del, frz, zcc])
  | fail)
       (refine EndW.frzN 1 ?_; simp [del, hne, Nat.add_assoc])
       refine EndW.norm ?_;simp [St.norm, zaX, zbH, zbS, zbT, hne, Nat.add_assoc]
       (refine EndW.z ([(i, pOb l q4)]) (N := nx) Tryz.results170 (by simp [hne, hi] <;> omega) ?_; simp [hne, hi])
       exact PPost.zeA (by simp [PR.bind, *]; rfl) (by simp [Exp.row_eq, Exp.op, Exp.n, Exp.unit, Exp.s, Exp.args]) rfl
theorem zlw {l : List Tok} (hl : TokOK l) {f p : Nat} (hE : zgS l f) (hf : 4 * (l.length - p) <= f) {t : Tok} (ht : l[p]? = some t) (hk : ¬ t.kind = 2) (h1 : isB l p [116, 114, 117, 101] = false) (h2 : isB l p [102, 97, 108, 115, 101] = false)
  (h3 : isB l p [109, 105, 110] = false) (h4 : isB l p [109, 97, 120] = true) {i nx : Nat} (hi : i < nx) :
  RetX Tryz.prog 170 [.ptr i 0] [(i, pOb l p)] nx (PPost l i nx zpi (zbc l (f + 1) p)) := ziA hl hE hf ht hk h1 h2 (.inl ⟨h3, h4⟩) hi
theorem zov {l : List Tok} (hl : TokOK l) {f p : Nat} {form : Int} (hE : zgS l f) (hp : p < l.length) (hf : 4 * (l.length - p) + 1 <= f)
  (hf0 : form = 0) (h1 : isB l p [105, 102] = true) {i nx : Nat} (hi : i < nx) :
  RetX Tryz.prog 139 [.ptr i 0, zp0 form] [(i, pOb l p)] nx (PPost l i nx zkx (zbX l (f + 1) p form)) := by
 have hne := zbg hi;have hll := hl.len;rw [zbX];have hp2 := zcA hl h1;subst hf0;have hf0 : (0 : Int) = 0 := rfl;have hf3 : (0 : Int) <= 3 := by omega
 have hh1 := fun nx' (h : nx <= nx') => zcp l p [105, 102] i nx' (by omega) hp hl.len;simp only [h1, if_true] at hh1;rw [if_pos ⟨rfl, h1⟩];have ha := fun nx' (h : nx <= nx') => hE (p + 1) 0 i nx' (by omega) hp2 (by omega) (by omega) (by omega);cases hr0 : ze9 l f (p + 1) 0 with
 | stop pos e =>
  simp only [hr0] at ha;refine RetX.runW Tryz.func139 Tryz.ntmps139 rfl (by simp) fun Γ hn hpan => ?_
  repeat' (first
  | (refine zaf rfl ?_; simp [hne, hf0, hf3, del, Nat.add_assoc])
  | (refine CallP.ok1 (hh1 _ (by first | omega | (simp; done) | (simp; omega) | fail)) (by first | (simp [hne, hf0, hf3, del, Nat.add_assoc, zaa, getK, zab, zac]; done) | fail) (by rfl) (by first | assumption | (simp; done) | fail) (by rfl) (by simp) ?_; (try simp [hne, hf0, hf3, del, Nat.add_assoc]))
  | (refine CallP.zg8 (ha _ (by first | omega | (simp; done) | (simp; omega) | fail)) (by first | (simp [hne, hf0, hf3, del, Nat.add_assoc, zaa, getK, zab, zac]; done) | fail) (by rfl) (by first | assumption | (simp; done) | fail) (by rfl) (by simp) ?_; rintro ob' ⟨q', rfl⟩; refine ⟨_, Wk.refl _, ?_⟩)
  | fail)
  (refine hpan _ _ (PanG.k ([(i, pOb l q')]) (nx) (by simp [hn, hi, hne, zab, zac, zaa, getK] <;> omega) ?_); try simp)
  exact PPost.zb1 (by simp [PR.bind, *])
 | ok v0 q0 =>
  have ha := fun nx' h => zev (ha nx' h) hr0;obtain ⟨g0a, g0b⟩ := (zdn hl f).1 _ _ _ _ hr0 hp2;have hw1 := fun nx' (h : nx <= nx') => zm1 hl [116, 104, 101, 110] (q := q0) (i := i) (nx := nx') (by omega) g0b;cases hr1 : zdv l q0 [[116, 104, 101, 110]] with
  | stop pos e =>
   simp only [hr1] at hw1;refine RetX.runW Tryz.func139 Tryz.ntmps139 rfl (by simp) fun Γ hn hpan => ?_
   repeat' (first
  | (refine zaf rfl ?_; simp [hne, hf0, hf3, del, Nat.add_assoc])
  | (refine CallP.ok1 (hh1 _ (by first | omega | (simp; done) | (simp; omega) | fail)) (by first | (simp [hne, hf0, hf3, del, Nat.add_assoc, zaa, getK, zab, zac]; done) | fail) (by rfl) (by first | assumption | (simp; done) | fail) (by rfl) (by simp) ?_; (try simp [hne, hf0, hf3, del, Nat.add_assoc]))
  | (refine CallP.ok1 (ha _ (by first | omega | (simp; done) | (simp; omega) | fail)) (by first | (simp [hne, hf0, hf3, del, Nat.add_assoc, zaa, getK, zab, zac]; done) | fail) (by rfl) (by first | assumption | (simp; done) | fail) (by rfl) (by simp) ?_; (try simp [hne, hf0, hf3, del, Nat.add_assoc]))
  | (refine CallP.zg8 (hw1 _ (by first | omega | (simp; done) | (simp; omega) | fail)) (by first | (simp [hne, hf0, hf3, del, Nat.add_assoc, zaa, getK, zab, zac]; done) | fail) (by rfl) (by first | assumption | (simp; done) | fail) (by rfl) (by simp) ?_; rintro ob' ⟨q', rfl⟩; refine ⟨_, Wk.refl _, ?_⟩)
  | (refine zbM (by first | rfl | fail) ?_; simp [hne, hf0, hf3, del, Nat.add_assoc, frzN, frz1, zaO, zaN, St.frz, St.frzS, frzS, fv, zbI, zbV, zcb, zaM, zay, zao, del, frz, zcc])
  | fail)
   (refine hpan _ _ (PanG.k ([(i, pOb l q')]) (nx) (by simp [hn, hi, hne, zab, zac, zaa, getK] <;> omega) ?_); try simp)
   exact PPost.zb1 (by simp [PR.bind, *])
  | ok v1 q1 =>
   simp only [hr1] at hw1;obtain ⟨g1a, g1b⟩ := zcr hl _ hr1 g0b;have hb := fun nx' (h : nx <= nx') => hE q1 0 i nx' (by omega) g1b (by omega) (by omega) (by omega);cases hr2 : ze9 l f q1 0 with
   | stop pos e =>
    simp only [hr2] at hb;refine RetX.runW Tryz.func139 Tryz.ntmps139 rfl (by simp) fun Γ hn hpan => ?_
    repeat' (first
  | (refine zaf rfl ?_; simp [hne, hf0, hf3, del, Nat.add_assoc])
  | (refine CallP.ok1 (hh1 _ (by first | omega | (simp; done) | (simp; omega) | fail)) (by first | (simp [hne, hf0, hf3, del, Nat.add_assoc, zaa, getK, zab, zac]; done) | fail) (by rfl) (by first | assumption | (simp; done) | fail) (by rfl) (by simp) ?_; (try simp [hne, hf0, hf3, del, Nat.add_assoc]))
  | (refine CallP.ok1 (ha _ (by first | omega | (simp; done) | (simp; omega) | fail)) (by first | (simp [hne, hf0, hf3, del, Nat.add_assoc, zaa, getK, zab, zac]; done) | fail) (by rfl) (by first | assumption | (simp; done) | fail) (by rfl) (by simp) ?_; (try simp [hne, hf0, hf3, del, Nat.add_assoc]))
  | (refine CallP.ok1 (hw1 _ (by first | omega | (simp; done) | (simp; omega) | fail)) (by first | (simp [hne, hf0, hf3, del, Nat.add_assoc, zaa, getK, zab, zac]; done) | fail) (by rfl) (by first | assumption | (simp; done) | fail) (by rfl) (by simp) ?_; (try simp [hne, hf0, hf3, del, Nat.add_assoc]))
  | (refine CallP.zg8 (hb _ (by first | omega | (simp; done) | (simp; omega) | fail)) (by first | (simp [hne, hf0, hf3, del, Nat.add_assoc, zaa, getK, zab, zac]; done) | fail) (by rfl) (by first | assumption | (simp; done) | fail) (by rfl) (by simp) ?_; rintro ob' ⟨q', rfl⟩; refine ⟨_, Wk.refl _, ?_⟩)
  | (refine zbM (by first | rfl | fail) ?_; simp [hne, hf0, hf3, del, Nat.add_assoc, frzN, frz1, zaO, zaN, St.frz, St.frzS, frzS, fv, zbI, zbV, zcb, zaM, zay, zao, del, frz, zcc])
  | fail)
    (refine hpan _ _ (PanG.k ([(i, pOb l q')]) (nx) (by simp [hn, hi, hne, zab, zac, zaa, getK] <;> omega) ?_); try simp)
    exact PPost.zb1 (by simp [PR.bind, *])
   | ok v2 q2 =>
    have hb := fun nx' h => zev (hb nx' h) hr2;obtain ⟨g2a, g2b⟩ := (zdn hl f).1 _ _ _ _ hr2 g1b;have hw2 := fun nx' (h : nx <= nx') => zm1 hl [101, 108, 115, 101] (q := q2) (i := i) (nx := nx') (by omega) g2b;cases hr3 : zdv l q2 [[101, 108, 115, 101]] with
    | stop pos e =>
     simp only [hr3] at hw2;refine RetX.runW Tryz.func139 Tryz.ntmps139 rfl (by simp) fun Γ hn hpan => ?_
     repeat' (first
  | (refine zaf rfl ?_; simp [hne, hf0, hf3, del, Nat.add_assoc])
  | (refine CallP.ok1 (hh1 _ (by first | omega | (simp; done) | (simp; omega) | fail)) (by first | (simp [hne, hf0, hf3, del, Nat.add_assoc, zaa, getK, zab, zac]; done) | fail) (by rfl) (by first | assumption | (simp; done) | fail) (by rfl) (by simp) ?_; (try simp [hne, hf0, hf3, del, Nat.add_assoc]))
  | (refine CallP.ok1 (ha _ (by first | omega | (simp; done) | (simp; omega) | fail)) (by first | (simp [hne, hf0, hf3, del, Nat.add_assoc, zaa, getK, zab, zac]; done) | fail) (by rfl) (by first | assumption | (simp; done) | fail) (by rfl) (by simp) ?_; (try simp [hne, hf0, hf3, del, Nat.add_assoc]))
  | (refine CallP.ok1 (hw1 _ (by first | omega | (simp; done) | (simp; omega) | fail)) (by first | (simp [hne, hf0, hf3, del, Nat.add_assoc, zaa, getK, zab, zac]; done) | fail) (by rfl) (by first | assumption | (simp; done) | fail) (by rfl) (by simp) ?_; (try simp [hne, hf0, hf3, del, Nat.add_assoc]))
  | (refine CallP.ok1 (hb _ (by first | omega | (simp; done) | (simp; omega) | fail)) (by first | (simp [hne, hf0, hf3, del, Nat.add_assoc, zaa, getK, zab, zac]; done) | fail) (by rfl) (by first | assumption | (simp; done) | fail) (by rfl) (by simp) ?_; (try simp [hne, hf0, hf3, del, Nat.add_assoc]))
  | (refine CallP.zg8 (hw2 _ (by first | omega | (simp; done) | (simp; omega) | fail)) (by first | (simp [hne, hf0, hf3, del, Nat.add_assoc, zaa, getK, zab, zac]; done) | fail) (by rfl) (by first | assumption | (simp; done) | fail) (by rfl) (by simp) ?_; rintro ob' ⟨q', rfl⟩; refine ⟨_, Wk.refl _, ?_⟩)
  | (refine zbM (by first | rfl | fail) ?_; simp [hne, hf0, hf3, del, Nat.add_assoc, frzN, frz1, zaO, zaN, St.frz, St.frzS, frzS, fv, zbI, zbV, zcb, zaM, zay, zao, del, frz, zcc])
  | fail)
     (refine hpan _ _ (PanG.k ([(i, pOb l q')]) (nx) (by simp [hn, hi, hne, zab, zac, zaa, getK] <;> omega) ?_); try simp)
     exact PPost.zb1 (by simp [PR.bind, *])
    | ok v3 q3 =>
     simp only [hr3] at hw2;obtain ⟨g3a, g3b⟩ := zcr hl _ hr3 g2b;have hc := fun nx' (h : nx <= nx') => hE q3 0 i nx' (by omega) g3b (by omega) (by omega) (by omega);cases hr4 : ze9 l f q3 0 with
     | stop pos e =>
      simp only [hr4] at hc;refine RetX.runW Tryz.func139 Tryz.ntmps139 rfl (by simp) fun Γ hn hpan => ?_
      repeat' (first
  | (refine zg6 (fun nx' h' => hc nx' (by simp at h'; omega)) (by first | (simp [hne, hf0, hf3, del, Nat.add_assoc, zaa, getK, zab, zac, zad, zah]; done) | fail) (by rfl) (by first | assumption | simp) (by rfl) (by simp) ?_ ?_; rintro env' ob' n' hn' ⟨q', rfl⟩; refine ⟨_, Wk.refl _, ?_⟩)
  | (refine zf9 rfl (by simp) ?_; simp)
  | (refine zaf rfl ?_; simp [hne, hf0, hf3, del, Nat.add_assoc])
  | (refine zg7 (hC _ (zdo [i] nx (by simp <;> omega) (by simp <;> omega) (by apply Exists.intro; apply And.intro; (focus (repeat' (first | exact KF.nil | exact KL.nil | apply KF.cons | apply KL.cons 0 rfl | apply KL.cons 1 rfl | apply KL.cons 2 rfl | apply KL.cons 3 rfl | apply KL.cons 4 rfl | apply KL.cons 5 rfl | apply KL.cons 6 rfl | apply KL.cons 7 rfl | apply KL.cons 8 rfl | apply KL.cons 9 rfl))); kernel_rfl))) rfl; done)
  | (refine zeW rfl (by kernel_rfl) (by first | (simp [hn]; done) | (simp [hn]; omega) | fail) fun C k hC hk => ?_; simp [hne, hf0, hf3, del, Nat.add_assoc])
  | (refine CallP.ok1 (hh1 _ (by first | omega | (simp; done) | (simp; omega) | fail)) (by first | (simp [hne, hf0, hf3, del, Nat.add_assoc, zaa, getK, zab, zac]; done) | fail) (by rfl) (by first | assumption | (simp; done) | fail) (by rfl) (by simp) ?_; (try simp [hne, hf0, hf3, del, Nat.add_assoc]))
  | (refine CallP.ok1 (ha _ (by first | omega | (simp; done) | (simp; omega) | fail)) (by first | (simp [hne, hf0, hf3, del, Nat.add_assoc, zaa, getK, zab, zac]; done) | fail) (by rfl) (by first | assumption | (simp; done) | fail) (by rfl) (by simp) ?_; (try simp [hne, hf0, hf3, del, Nat.add_assoc]))
  | (refine CallP.ok1 (hw1 _ (by first | omega | (simp; done) | (simp; omega) | fail)) (by first | (simp [hne, hf0, hf3, del, Nat.add_assoc, zaa, getK, zab, zac]; done) | fail) (by rfl) (by first | assumption | (simp; done) | fail) (by rfl) (by simp) ?_; (try simp [hne, hf0, hf3, del, Nat.add_assoc]))
  | (refine CallP.ok1 (hb _ (by first | omega | (simp; done) | (simp; omega) | fail)) (by first | (simp [hne, hf0, hf3, del, Nat.add_assoc, zaa, getK, zab, zac]; done) | fail) (by rfl) (by first | assumption | (simp; done) | fail) (by rfl) (by simp) ?_; (try simp [hne, hf0, hf3, del, Nat.add_assoc]))
  | (refine CallP.ok1 (hw2 _ (by first | omega | (simp; done) | (simp; omega) | fail)) (by first | (simp [hne, hf0, hf3, del, Nat.add_assoc, zaa, getK, zab, zac]; done) | fail) (by rfl) (by first | assumption | (simp; done) | fail) (by rfl) (by simp) ?_; (try simp [hne, hf0, hf3, del, Nat.add_assoc]))
  | (refine zbM (by first | rfl | fail) ?_; simp [hne, hf0, hf3, del, Nat.add_assoc, frzN, frz1, zaO, zaN, St.frz, St.frzS, frzS, fv, zbI, zbV, zcb, zaM, zay, zao, del, frz, zcc])
  | fail)
      (refine hpan _ _ (PanG.k ([(i, pOb l q')]) (nx) (by simp [hn, hi, hne, zab, zac, zaa, getK] <;> omega) ?_); try simp)
      exact PPost.zb1 (by simp [PR.bind, *])
     | ok v4 q4 =>
      have hc := fun nx' h => zev (hc nx' h) hr4;obtain ⟨g4a, g4b⟩ := (zdn hl f).1 _ _ _ _ hr4 g3b;refine RetX.runW Tryz.func139 Tryz.ntmps139 rfl (by simp) fun Γ hn hpan => ?_
      repeat' (first
  | (refine zjZ (fun nx' h' => hc nx' (by simp at h'; omega)) (by first | (simp [hne, hf0, hf3, del, Nat.add_assoc, zaa, getK, zab, zac, zad, zah]; done) | fail) (by rfl) (by first | assumption | simp) (by rfl) (by simp [D.under, Ob.under]) (by simp) ?_; (try simp [hne, hf0, hf3, del, Nat.add_assoc]))
  | (refine zaf rfl ?_; simp [hne, hf0, hf3, del, Nat.add_assoc])
  | (refine ⟨hC _ (zdo [i] nx (by simp <;> omega) (by simp <;> omega) (by apply Exists.intro; apply And.intro; (focus (repeat' (first | exact KF.nil | exact KL.nil | apply KF.cons | apply KL.cons 0 rfl | apply KL.cons 1 rfl | apply KL.cons 2 rfl | apply KL.cons 3 rfl | apply KL.cons 4 rfl | apply KL.cons 5 rfl | apply KL.cons 6 rfl | apply KL.cons 7 rfl | apply KL.cons 8 rfl | apply KL.cons 9 rfl))); kernel_rfl)), hk _ (zel 8 _ _ _ ?_)⟩; clear hC hk C k; simp [hne, hf0, hf3, del, Nat.add_assoc])
  | (refine zeW rfl (by kernel_rfl) (by first | (simp [hn]; done) | (simp [hn]; omega) | fail) fun C k hC hk => ?_; simp [hne, hf0, hf3, del, Nat.add_assoc])
  | (refine zc7 rfl ?_; simp [hne, hf0, hf3, del, Nat.add_assoc])
  | (refine CallP.ok1 (hh1 _ (by first | omega | (simp; done) | (simp; omega) | fail)) (by first | (simp [hne, hf0, hf3, del, Nat.add_assoc, zaa, getK, zab, zac]; done) | fail) (by rfl) (by first | assumption | (simp; done) | fail) (by rfl) (by simp) ?_; (try simp [hne, hf0, hf3, del, Nat.add_assoc]))
  | (refine CallP.ok1 (ha _ (by first | omega | (simp; done) | (simp; omega) | fail)) (by first | (simp [hne, hf0, hf3, del, Nat.add_assoc, zaa, getK, zab, zac]; done) | fail) (by rfl) (by first | assumption | (simp; done) | fail) (by rfl) (by simp) ?_; (try simp [hne, hf0, hf3, del, Nat.add_assoc]))
  | (refine CallP.ok1 (hw1 _ (by first | omega | (simp; done) | (simp; omega) | fail)) (by first | (simp [hne, hf0, hf3, del, Nat.add_assoc, zaa, getK, zab, zac]; done) | fail) (by rfl) (by first | assumption | (simp; done) | fail) (by rfl) (by simp) ?_; (try simp [hne, hf0, hf3, del, Nat.add_assoc]))
  | (refine CallP.ok1 (hb _ (by first | omega | (simp; done) | (simp; omega) | fail)) (by first | (simp [hne, hf0, hf3, del, Nat.add_assoc, zaa, getK, zab, zac]; done) | fail) (by rfl) (by first | assumption | (simp; done) | fail) (by rfl) (by simp) ?_; (try simp [hne, hf0, hf3, del, Nat.add_assoc]))
  | (refine CallP.ok1 (hw2 _ (by first | omega | (simp; done) | (simp; omega) | fail)) (by first | (simp [hne, hf0, hf3, del, Nat.add_assoc, zaa, getK, zab, zac]; done) | fail) (by rfl) (by first | assumption | (simp; done) | fail) (by rfl) (by simp) ?_; (try simp [hne, hf0, hf3, del, Nat.add_assoc]))
  | (refine zbM (by first | rfl | fail) ?_; simp [hne, hf0, hf3, del, Nat.add_assoc, frzN, frz1, zaO, zaN, St.frz, St.frzS, frzS, fv, zbI, zbV, zcb, zaM, zay, zao, del, frz, zcc])
  | fail)
      (refine EndW.frzN 1 ?_; simp [del, hne, Nat.add_assoc])
      refine EndW.norm ?_;simp [St.norm, zaX, zbH, zbS, zbT, hne, Nat.add_assoc]
      (refine EndW.z ([(i, pOb l q4)]) (N := nx) Tryz.results139 (by simp [hne, hi] <;> omega) ?_; simp [hne, hi])
      exact PPost.zeA (by simp [PR.bind, *]; rfl) (by simp [Exp.row_eq, Exp.op, Exp.n, Exp.unit, Exp.s, Exp.args]) rfl
theorem zlz {l : List Tok} (hl : TokOK l) {f p : Nat} {form : Int} (hE : zgS l f) (hp : p < l.length) (hf : 4 * (l.length - p) + 1 <= f)
  (hf0 : form = 0) (hf3 : form <= 3) (h1 : isB l p [105, 102] = false) (h2 : isB l p [110, 111, 116] = true) {i nx : Nat} (hi : i < nx) :
  RetX Tryz.prog 139 [.ptr i 0, zp0 form] [(i, pOb l p)] nx (PPost l i nx zkx (zbX l (f + 1) p form)) := by
 have hne := zbg hi;have hll := hl.len;rw [zbX];have hh1 := fun nx' (h : nx <= nx') => zcp l p [105, 102] i nx' (by omega) hp hl.len;rw [h1] at hh1;simp only [if_true, Bool.false_eq_true, if_false] at hh1;have hp2 := zcA hl h2;have hh2 := fun nx' (h : nx <= nx') => zcp l p [110, 111, 116] i nx' (by omega) hp hl.len;rw [h2] at hh2;simp only [if_true, Bool.false_eq_true, if_false] at hh2;rw [if_neg (by simp [*]), if_pos ⟨hf3, h2⟩];have ha := fun nx' (h : nx <= nx') => hE (p + 1) 3 i nx' (by omega) hp2 (by omega) (by omega) (by omega);cases hr0 : ze9 l f (p + 1) 3 with
 | stop pos e =>
  simp only [hr0] at ha;refine RetX.runW Tryz.func139 Tryz.ntmps139 rfl (by simp) fun Γ hn hpan => ?_
  repeat' (first
  | (refine zaf rfl ?_; simp [hne, hf0, hf3, del, Nat.add_assoc])
  | (refine CallP.ok1 (hh1 _ (by first | omega | (simp; done) | (simp; omega) | fail)) (by first | (simp [hne, hf0, hf3, del, Nat.add_assoc, zaa, getK, zab, zac]; done) | fail) (by rfl) (by first | assumption | (simp; done) | fail) (by rfl) (by simp) ?_; (try simp [hne, hf0, hf3, del, Nat.add_assoc]))
  | (refine CallP.ok1 (hh2 _ (by first | omega | (simp; done) | (simp; omega) | fail)) (by first | (simp [hne, hf0, hf3, del, Nat.add_assoc, zaa, getK, zab, zac]; done) | fail) (by rfl) (by first | assumption | (simp; done) | fail) (by rfl) (by simp) ?_; (try simp [hne, hf0, hf3, del, Nat.add_assoc]))
  | (refine CallP.zg8 (ha _ (by first | omega | (simp; done) | (simp; omega) | fail)) (by first | (simp [hne, hf0, hf3, del, Nat.add_assoc, zaa, getK, zab, zac]; done) | fail) (by rfl) (by first | assumption | (simp; done) | fail) (by rfl) (by simp) ?_; rintro ob' ⟨q', rfl⟩; refine ⟨_, Wk.refl _, ?_⟩)
  | fail)
  (refine hpan _ _ (PanG.k ([(i, pOb l q')]) (nx) (by simp [hn, hi, hne, zab, zac, zaa, getK] <;> omega) ?_); try simp)
  exact PPost.zb1 (by simp [PR.bind, *])
 | ok v0 q0 =>
  have ha := fun nx' h => zev (ha nx' h) hr0;refine RetX.runW Tryz.func139 Tryz.ntmps139 rfl (by simp) fun Γ hn hpan => ?_
  repeat' (first
  | (refine zaf rfl ?_; simp [hne, hf0, hf3, del, Nat.add_assoc])
  | (refine CallP.ok1 (hh1 _ (by first | omega | (simp; done) | (simp; omega) | fail)) (by first | (simp [hne, hf0, hf3, del, Nat.add_assoc, zaa, getK, zab, zac]; done) | fail) (by rfl) (by first | assumption | (simp; done) | fail) (by rfl) (by simp) ?_; (try simp [hne, hf0, hf3, del, Nat.add_assoc]))
  | (refine CallP.ok1 (hh2 _ (by first | omega | (simp; done) | (simp; omega) | fail)) (by first | (simp [hne, hf0, hf3, del, Nat.add_assoc, zaa, getK, zab, zac]; done) | fail) (by rfl) (by first | assumption | (simp; done) | fail) (by rfl) (by simp) ?_; (try simp [hne, hf0, hf3, del, Nat.add_assoc]))
  | (refine CallP.ok1 (ha _ (by first | omega | (simp; done) | (simp; omega) | fail)) (by first | (simp [hne, hf0, hf3, del, Nat.add_assoc, zaa, getK, zab, zac]; done) | fail) (by rfl) (by first | assumption | (simp; done) | fail) (by rfl) (by simp) ?_; (try simp [hne, hf0, hf3, del, Nat.add_assoc]))
  | fail)
  (refine EndW.frzN 1 ?_; simp [del, hne, Nat.add_assoc])
  refine EndW.norm ?_;simp [St.norm, zaX, zbH, zbS, zbT, hne, Nat.add_assoc]
  (refine EndW.z ([(i, pOb l q0)]) (N := nx) Tryz.results139 (by simp [hne, hi] <;> omega) ?_; simp [hne, hi])
  exact PPost.zeA (by simp [PR.bind, *]; rfl) (by simp [Exp.row_eq, Exp.op, Exp.n, Exp.unit, Exp.s, Exp.args]) rfl
theorem zly {l : List Tok} (hl : TokOK l) {f p : Nat} {form : Int} (hE : zgS l f) (hp : p < l.length) (hf : 4 * (l.length - p) + 1 <= f)
  (hf0 : ¬ form = 0) (hf3 : form <= 3) (h2 : isB l p [110, 111, 116] = true) {i nx : Nat} (hi : i < nx) :
  RetX Tryz.prog 139 [.ptr i 0, zp0 form] [(i, pOb l p)] nx (PPost l i nx zkx (zbX l (f + 1) p form)) := by
 have hne := zbg hi;have hll := hl.len;rw [zbX];have hp2 := zcA hl h2;have hh2 := fun nx' (h : nx <= nx') => zcp l p [110, 111, 116] i nx' (by omega) hp hl.len;rw [h2] at hh2;simp only [if_true, Bool.false_eq_true, if_false] at hh2;rw [if_neg (by simp [*]), if_pos ⟨hf3, h2⟩];have ha := fun nx' (h : nx <= nx') => hE (p + 1) 3 i nx' (by omega) hp2 (by omega) (by omega) (by omega);cases hr0 : ze9 l f (p + 1) 3 with
 | stop pos e =>
  simp only [hr0] at ha;refine RetX.runW Tryz.func139 Tryz.ntmps139 rfl (by simp) fun Γ hn hpan => ?_
  repeat' (first
  | (refine zaf rfl ?_; simp [hne, hf0, hf3, del, Nat.add_assoc])
  | (refine CallP.ok1 (hh2 _ (by first | omega | (simp; done) | (simp; omega) | fail)) (by first | (simp [hne, hf0, hf3, del, Nat.add_assoc, zaa, getK, zab, zac]; done) | fail) (by rfl) (by first | assumption | (simp; done) | fail) (by rfl) (by simp) ?_; (try simp [hne, hf0, hf3, del, Nat.add_assoc]))
  | (refine CallP.zg8 (ha _ (by first | omega | (simp; done) | (simp; omega) | fail)) (by first | (simp [hne, hf0, hf3, del, Nat.add_assoc, zaa, getK, zab, zac]; done) | fail) (by rfl) (by first | assumption | (simp; done) | fail) (by rfl) (by simp) ?_; rintro ob' ⟨q', rfl⟩; refine ⟨_, Wk.refl _, ?_⟩)
  | fail)
  (refine hpan _ _ (PanG.k ([(i, pOb l q')]) (nx) (by simp [hn, hi, hne, zab, zac, zaa, getK] <;> omega) ?_); try simp)
  exact PPost.zb1 (by simp [PR.bind, *])
 | ok v0 q0 =>
  have ha := fun nx' h => zev (ha nx' h) hr0;refine RetX.runW Tryz.func139 Tryz.ntmps139 rfl (by simp) fun Γ hn hpan => ?_
  repeat' (first
  | (refine zaf rfl ?_; simp [hne, hf0, hf3, del, Nat.add_assoc])
  | (refine CallP.ok1 (hh2 _ (by first | omega | (simp; done) | (simp; omega) | fail)) (by first | (simp [hne, hf0, hf3, del, Nat.add_assoc, zaa, getK, zab, zac]; done) | fail) (by rfl) (by first | assumption | (simp; done) | fail) (by rfl) (by simp) ?_; (try simp [hne, hf0, hf3, del, Nat.add_assoc]))
  | (refine CallP.ok1 (ha _ (by first | omega | (simp; done) | (simp; omega) | fail)) (by first | (simp [hne, hf0, hf3, del, Nat.add_assoc, zaa, getK, zab, zac]; done) | fail) (by rfl) (by first | assumption | (simp; done) | fail) (by rfl) (by simp) ?_; (try simp [hne, hf0, hf3, del, Nat.add_assoc]))
  | fail)
  (refine EndW.frzN 1 ?_; simp [del, hne, Nat.add_assoc])
  refine EndW.norm ?_;simp [St.norm, zaX, zbH, zbS, zbT, hne, Nat.add_assoc]
  (refine EndW.z ([(i, pOb l q0)]) (N := nx) Tryz.results139 (by simp [hne, hi] <;> omega) ?_; simp [hne, hi])
  exact PPost.zeA (by simp [PR.bind, *]; rfl) (by simp [Exp.row_eq, Exp.op, Exp.n, Exp.unit, Exp.s, Exp.args]) rfl
theorem zkr {l : List Tok} (hl : TokOK l) {f p : Nat} {form : Int} (hP : zi9 l f) (hp : p < l.length) (hf : 4 * (l.length - p) + 1 <= f)
  (hf0 : form = 0) (hf3 : form <= 3) (h1 : isB l p [105, 102] = false) (h2 : isB l p [110, 111, 116] = false) {i nx : Nat} (hi : i < nx) :
  RetX Tryz.prog 139 [.ptr i 0, zp0 form] [(i, pOb l p)] nx (PPost l i nx zkx (zbX l (f + 1) p form)) := by
 have hne := zbg hi;have hll := hl.len;rw [zbX];have hh1 := fun nx' (h : nx <= nx') => zcp l p [105, 102] i nx' (by omega) hp hl.len;rw [h1] at hh1;simp only [if_true, Bool.false_eq_true, if_false] at hh1;have hh2 := fun nx' (h : nx <= nx') => zcp l p [110, 111, 116] i nx' (by omega) hp hl.len;rw [h2] at hh2;simp only [if_true, Bool.false_eq_true, if_false] at hh2;rw [if_neg (by simp [*]), if_neg (by simp [*])];have ha := fun nx' (h : nx <= nx') => hP p i nx' (by omega) hp (by omega);cases hr0 : zbc l f p with
 | stop pos e =>
  simp only [hr0] at ha;refine RetX.runW Tryz.func139 Tryz.ntmps139 rfl (by simp) fun Γ hn hpan => ?_
  repeat' (first
  | (refine zaf rfl ?_; simp [hne, hf0, hf3, del, Nat.add_assoc])
  | (refine CallP.ok1 (hh1 _ (by first | omega | (simp; done) | (simp; omega) | fail)) (by first | (simp [hne, hf0, hf3, del, Nat.add_assoc, zaa, getK, zab, zac]; done) | fail) (by rfl) (by first | assumption | (simp; done) | fail) (by rfl) (by simp) ?_; (try simp [hne, hf0, hf3, del, Nat.add_assoc]))
  | (refine CallP.ok1 (hh2 _ (by first | omega | (simp; done) | (simp; omega) | fail)) (by first | (simp [hne, hf0, hf3, del, Nat.add_assoc, zaa, getK, zab, zac]; done) | fail) (by rfl) (by first | assumption | (simp; done) | fail) (by rfl) (by simp) ?_; (try simp [hne, hf0, hf3, del, Nat.add_assoc]))
  | (refine CallP.zg8 (ha _ (by first | omega | (simp; done) | (simp; omega) | fail)) (by first | (simp [hne, hf0, hf3, del, Nat.add_assoc, zaa, getK, zab, zac]; done) | fail) (by rfl) (by first | assumption | (simp; done) | fail) (by rfl) (by simp) ?_; rintro ob' ⟨q', rfl⟩; refine ⟨_, Wk.refl _, ?_⟩)
  | fail)
  (refine hpan _ _ (PanG.k ([(i, pOb l q')]) (nx) (by simp [hn, hi, hne, zab, zac, zaa, getK] <;> omega) ?_); try simp)
  exact PPost.zb1 (by simp [PR.bind, *])
 | ok v0 q0 =>
  have ha := fun nx' h => zev (ha nx' h) hr0;refine RetX.runW Tryz.func139 Tryz.ntmps139 rfl (by simp) fun Γ hn hpan => ?_
  repeat' (first
  | (refine zaf rfl ?_; simp [hne, hf0, hf3, del, Nat.add_assoc])
  | (refine CallP.ok1 (hh1 _ (by first | omega | (simp; done) | (simp; omega) | fail)) (by first | (simp [hne, hf0, hf3, del, Nat.add_assoc, zaa, getK, zab, zac]; done) | fail) (by rfl) (by first | assumption | (simp; done) | fail) (by rfl) (by simp) ?_; (try simp [hne, hf0, hf3, del, Nat.add_assoc]))
  | (refine CallP.ok1 (hh2 _ (by first | omega | (simp; done) | (simp; omega) | fail)) (by first | (simp [hne, hf0, hf3, del, Nat.add_assoc, zaa, getK, zab, zac]; done) | fail) (by rfl) (by first | assumption | (simp; done) | fail) (by rfl) (by simp) ?_; (try simp [hne, hf0, hf3, del, Nat.add_assoc]))
  | (refine CallP.ok1 (ha _ (by first | omega | (simp; done) | (simp; omega) | fail)) (by first | (simp [hne, hf0, hf3, del, Nat.add_assoc, zaa, getK, zab, zac]; done) | fail) (by rfl) (by first | assumption | (simp; done) | fail) (by rfl) (by simp) ?_; (try simp [hne, hf0, hf3, del, Nat.add_assoc]))
  | fail)
  refine EndW.norm ?_;simp [St.norm, zaX, zbH, zbS, zbT, hne, Nat.add_assoc]
  (refine EndW.z ([(i, pOb l q0)]) (N := nx) Tryz.results139 (by simp [hne, hi] <;> omega) ?_; simp [hne, hi])
  exact PPost.zeA (by simp [PR.bind, *]; rfl) (by simp [Exp.row_eq, Exp.op, Exp.n, Exp.unit, Exp.s, Exp.args]) rfl
theorem zkq {l : List Tok} (hl : TokOK l) {f p : Nat} {form : Int} (hP : zi9 l f) (hp : p < l.length) (hf : 4 * (l.length - p) + 1 <= f)
  (hf0 : ¬ form = 0) (hf3 : form <= 3) (h2 : isB l p [110, 111, 116] = false) {i nx : Nat} (hi : i < nx) :
  RetX Tryz.prog 139 [.ptr i 0, zp0 form] [(i, pOb l p)] nx (PPost l i nx zkx (zbX l (f + 1) p form)) := by
 have hne := zbg hi;have hll := hl.len;rw [zbX];have hh2 := fun nx' (h : nx <= nx') => zcp l p [110, 111, 116] i nx' (by omega) hp hl.len;rw [h2] at hh2;simp only [if_true, Bool.false_eq_true, if_false] at hh2;rw [if_neg (by simp [*]), if_neg (by simp [*])];have ha := fun nx' (h : nx <= nx') => hP p i nx' (by omega) hp (by omega);cases hr0 : zbc l f p with
 | stop pos e =>
  simp only [hr0] at ha;refine RetX.runW Tryz.func139 Tryz.ntmps139 rfl (by simp) fun Γ hn hpan => ?_
  repeat' (first
  | (refine zaf rfl ?_; simp [hne, hf0, hf3, del, Nat.add_assoc])
  | (refine CallP.ok1 (hh2 _ (by first | omega | (simp; done) | (simp; omega) | fail)) (by first | (simp [hne, hf0, hf3, del, Nat.add_assoc, zaa, getK, zab, zac]; done) | fail) (by rfl) (by first | assumption | (simp; done) | fail) (by rfl) (by simp) ?_; (try simp [hne, hf0, hf3, del, Nat.add_assoc]))
  | (refine CallP.zg8 (ha _ (by first | omega | (simp; done) | (simp; omega) | fail)) (by first | (simp [hne, hf0, hf3, del, Nat.add_assoc, zaa, getK, zab, zac]; done) | fail) (by rfl) (by first | assumption | (simp; done) | fail) (by rfl) (by simp) ?_; rintro ob' ⟨q', rfl⟩; refine ⟨_, Wk.refl _, ?_⟩)
  | fail)
  (refine hpan _ _ (PanG.k ([(i, pOb l q')]) (nx) (by simp [hn, hi, hne, zab, zac, zaa, getK] <;> omega) ?_); try simp)
  exact PPost.zb1 (by simp [PR.bind, *])
 | ok v0 q0 =>
  have ha := fun nx' h => zev (ha nx' h) hr0;refine RetX.runW Tryz.func139 Tryz.ntmps139 rfl (by simp) fun Γ hn hpan => ?_
  repeat' (first
  | (refine zaf rfl ?_; simp [hne, hf0, hf3, del, Nat.add_assoc])
  | (refine CallP.ok1 (hh2 _ (by first | omega | (simp; done) | (simp; omega) | fail)) (by first | (simp [hne, hf0, hf3, del, Nat.add_assoc, zaa, getK, zab, zac]; done) | fail) (by rfl) (by first | assumption | (simp; done) | fail) (by rfl) (by simp) ?_; (try simp [hne, hf0, hf3, del, Nat.add_assoc]))
  | (refine CallP.ok1 (ha _ (by first | omega | (simp; done) | (simp; omega) | fail)) (by first | (simp [hne, hf0, hf3, del, Nat.add_assoc, zaa, getK, zab, zac]; done) | fail) (by rfl) (by first | assumption | (simp; done) | fail) (by rfl) (by simp) ?_; (try simp [hne, hf0, hf3, del, Nat.add_assoc]))
  | fail)
  refine EndW.norm ?_;simp [St.norm, zaX, zbH, zbS, zbT, hne, Nat.add_assoc]
  (refine EndW.z ([(i, pOb l q0)]) (N := nx) Tryz.results139 (by simp [hne, hi] <;> omega) ?_; simp [hne, hi])
  exact PPost.zeA (by simp [PR.bind, *]; rfl) (by simp [Exp.row_eq, Exp.op, Exp.n, Exp.unit, Exp.s, Exp.args]) rfl
theorem zkp {l : List Tok} (hl : TokOK l) {f p : Nat} {form : Int} (hP : zi9 l f) (hp : p < l.length) (hf : 4 * (l.length - p) + 1 <= f)
  (hf0 : ¬ form = 0) (hf3 : ¬ form <= 3) {i nx : Nat} (hi : i < nx) :
  RetX Tryz.prog 139 [.ptr i 0, zp0 form] [(i, pOb l p)] nx (PPost l i nx zkx (zbX l (f + 1) p form)) := by
 have hne := zbg hi;have hll := hl.len;rw [zbX];rw [if_neg (by simp [*]), if_neg (by simp [*])];have ha := fun nx' (h : nx <= nx') => hP p i nx' (by omega) hp (by omega);cases hr0 : zbc l f p with
 | stop pos e =>
  simp only [hr0] at ha;refine RetX.runW Tryz.func139 Tryz.ntmps139 rfl (by simp) fun Γ hn hpan => ?_
  repeat' (first
  | (refine zaf rfl ?_; simp [hne, hf0, hf3, del, Nat.add_assoc])
  | (refine CallP.zg8 (ha _ (by first | omega | (simp; done) | (simp; omega) | fail)) (by first | (simp [hne, hf0, hf3, del, Nat.add_assoc, zaa, getK, zab, zac]; done) | fail) (by rfl) (by first | assumption | (simp; done) | fail) (by rfl) (by simp) ?_; rintro ob' ⟨q', rfl⟩; refine ⟨_, Wk.refl _, ?_⟩)
  | fail)
  (refine hpan _ _ (PanG.k ([(i, pOb l q')]) (nx) (by simp [hn, hi, hne, zab, zac, zaa, getK] <;> omega) ?_); try simp)
  exact PPost.zb1 (by simp [PR.bind, *])
 | ok v0 q0 =>
  have ha := fun nx' h => zev (ha nx' h) hr0;refine RetX.runW Tryz.func139 Tryz.ntmps139 rfl (by simp) fun Γ hn hpan => ?_
  repeat' (first
  | (refine zaf rfl ?_; simp [hne, hf0, hf3, del, Nat.add_assoc])
  | (refine CallP.ok1 (ha _ (by first | omega | (simp; done) | (simp; omega) | fail)) (by first | (simp [hne, hf0, hf3, del, Nat.add_assoc, zaa, getK, zab, zac]; done) | fail) (by rfl) (by first | assumption | (simp; done) | fail) (by rfl) (by simp) ?_; (try simp [hne, hf0, hf3, del, Nat.add_assoc]))
  | fail)
  refine EndW.norm ?_;simp [St.norm, zaX, zbH, zbS, zbT, hne, Nat.add_assoc]
  (refine EndW.z ([(i, pOb l q0)]) (N := nx) Tryz.results139 (by simp [hne, hi] <;> omega) ?_; simp [hne, hi])
  exact PPost.zeA (by simp [PR.bind, *]; rfl) (by simp [Exp.row_eq, Exp.op, Exp.n, Exp.unit, Exp.s, Exp.args]) rfl
theorem zlx {l : List Tok} (hl : TokOK l) {f : Nat} (hE : zgS l f) (hP : zi9 l f) : zs9 l (f + 1) := by
 intro p form i nx hi hp hf hm0 hm7;have hf' : 4 * (l.length - p) + 1 <= f := by omega
 by_cases hf0 : form = 0
 ·have hf3 : form <= 3 := by omega
  cases h1 : isB l p [105, 102] with
  | true => exact zov hl hE hp hf' hf0 h1 hi
  | false =>
   cases h2 : isB l p [110, 111, 116] with
   | true => exact zlz hl hE hp hf' hf0 hf3 h1 h2 hi
   | false => exact zkr hl hP hp hf' hf0 hf3 h1 h2 hi
 ·by_cases hf3 : form <= 3
  ·cases h2 : isB l p [110, 111, 116] with
   | true => exact zly hl hE hp hf' hf0 hf3 h2 hi
   | false => exact zkq hl hP hp hf' hf0 hf3 h2 hi
  ·exact zkp hl hP hp hf' hf0 hf3 hi
theorem zsz (A B : Code) : Fun Tryz.prog 54 [.u (Vm.inss A), .u (Vm.inss B)] (· = .u (.bool (decide (A = B)))) := by
 simp only [Vm.inss];by_cases hl : A.length = B.length
 ·have hl' : (A.length : Int) = B.length := by omega
  refine Fun.run Tryz.func54 Tryz.ntmps54 Tryz.results54 rfl (by simp) fun Γ hn => ?_; simp only [entry, List.zipIdx_cons, List.zipIdx_nil, List.map_cons, List.map_nil, Nat.zero_add];refine zjW (x := 0) rfl fun hll => ?_;simp at hll
  repeat' (first
  | (refine zaf rfl ?_; simp [hl, hl'])
  | fail)
  refine zdg (α := { i : Nat // i <= A.length /\ A.take i = B.take i }) [0, 1, 11, 12] (fun i => [(13, .u (.int .i64 i.1))]) (fun i => []) 0 (fun i => A.length - i.1) ⟨0, by omega, rfl⟩ ?_ ?_
  ·exact (Wk.zeX (by simp [hn, hl] <;> grind))
  rintro ⟨i, hi, hb⟩;simp;rcases hx : A[i]? with _ | a
  ·have hge : A.length <= i := by simpa using hx
   obtain rfl : i = A.length := by omega
   rw [List.take_of_length_le (Nat.le_refl _), List.take_of_length_le (by omega)] at hb;subst hb
   repeat' (first
  | (refine zaf rfl ?_; simp [hx, hl])
  | fail)
   (refine Pst.of ?_; simp)
  ·have hlt : i < A.length := (List.getElem?_eq_some_iff.1 hx).1;have hlt2 : i < B.length := by omega
   obtain ⟨b, hy⟩ : ∃ b, B[i]? = some b := ⟨_, List.getElem?_eq_getElem hlt2⟩;have hi2 : (i : Int) < B.length := by omega
   by_cases hab : a = b
   ·have hsn : A.take (i + 1) = B.take (i + 1) := by
     rw [List.take_succ_eq_append_getElem hlt, List.take_succ_eq_append_getElem hlt2, hb, (List.getElem?_eq_some_iff.1 hx).2, (List.getElem?_eq_some_iff.1 hy).2, hab]
    subst hab;have hax : A[i]'hlt = a := (List.getElem?_eq_some_iff.1 hx).2;have hbx : B[i]'hlt2 = a := (List.getElem?_eq_some_iff.1 hy).2
    repeat' (first
  | (refine zaf rfl ?_; simp [hx, hy, hi2, hax, hbx])
  | (refine And.intro (by omega) ?_)
  | (refine ⟨hC _ (by kernel_rfl), hk _ (zel 8 _ _ _ ?_)⟩; clear hC hk C k; simp [hx, hy, hi2, hax, hbx])
  | (refine zeW rfl (by kernel_rfl) (by first | (simp [hn]; done) | (simp [hn]; omega) | fail) fun C k hC hk => ?_; simp [hx, hy, hi2, hax, hbx])
  | fail)
    refine LoopW.next ⟨i + 1, by omega, hsn⟩ (by simp; omega) ?_
    exact (Wk.zeX (by simp [hn, hl] <;> grind))
   ·have hne : A ≠ B := fun e => by subst e; rw [hx] at hy; cases hy; exact hab rfl
    have hax : A[i]'hlt = a := (List.getElem?_eq_some_iff.1 hx).2;have hbx : B[i]'hlt2 = b := (List.getElem?_eq_some_iff.1 hy).2;rw [decide_eq_false hne];have hfa : ¬ (a.op = b.op /\ a.a = b.a /\ a.s = b.s) := fun ⟨h1, h2, h3⟩ => hab (by cases a; cases b; simp_all)
    repeat' (first
  | (refine Cnd.of (fun hc => ?_) (fun hc => ?_) <;> (try (exfalso; omega)) <;> (try simp [hx, hy, hi2, hax, hbx]))
  | (refine zaf rfl ?_; simp [hx, hy, hi2, hax, hbx])
  | (refine And.intro (by omega) ?_)
  | (refine ⟨hC _ (by kernel_rfl), hk _ (zel 8 _ _ _ ?_)⟩; clear hC hk C k; simp [hx, hy, hi2, hax, hbx])
  | (refine zeW rfl (by kernel_rfl) (by first | (simp [hn]; done) | (simp [hn]; omega) | fail) fun C k hC hk => ?_; simp [hx, hy, hi2, hax, hbx])
  | fail)
    (refine Pst.of ?_; simp)
    exact absurd (by assumption) hfa
 ·have hl' : ¬ (A.length : Int) = B.length := by omega
  have hne : ¬ A = B := fun e => hl (by rw [e]);refine Fun.run Tryz.func54 Tryz.ntmps54 Tryz.results54 rfl (by simp) fun Γ hn => ?_
  repeat' (first
  | (refine zaf rfl ?_; simp [hl, hl'])
  | fail)
  (refine Pst.of ?_; simp)
  simp [hne]
theorem zpm (A B : Code) : Fun Tryz.prog 21 [.u (Vm.inss A), .u (Vm.inss B)] (· = .u (.bool (decide (A = B)))) := by
 have h := zsz A B;refine Fun.run Tryz.func21 Tryz.ntmps21 Tryz.results21 rfl (by simp) fun Γ hn => ?_
 repeat' (first
  | (refine zaf rfl ?_; simp)
  | (refine CallP.f2 rfl (h) (by first | simp <;> rfl | fail) ?_; simp)
  | fail)
 (refine Pst.of ?_; simp)
theorem ziv (A B : Code) : Fun Tryz.prog 16 [.u (Vm.inss A), .u (Vm.inss B)] (· = .u (.bool (decide (A = B)))) := by
 simp only [Vm.inss];by_cases hl : A.length = B.length
 ·have hl' : (A.length : Int) = B.length := by omega
  refine Fun.run Tryz.func16 Tryz.ntmps16 Tryz.results16 rfl (by simp) fun Γ hn => ?_; simp only [entry, List.zipIdx_cons, List.zipIdx_nil, List.map_cons, List.map_nil, Nat.zero_add];refine zjW (x := 0) rfl fun hll => ?_;simp at hll
  repeat' (first
  | (refine zaf rfl ?_; simp [hl, hl'])
  | fail)
  refine zdg (α := { i : Nat // i <= A.length /\ A.take i = B.take i }) [0, 1] (fun i => [(5, .u (.int .i64 i.1))]) (fun i => []) 0 (fun i => A.length - i.1) ⟨0, by omega, rfl⟩ ?_ ?_
  ·exact (Wk.zeX (by simp [hn, hl] <;> grind))
  rintro ⟨i, hi, hb⟩;simp;rcases hx : A[i]? with _ | a
  ·have hge : A.length <= i := by simpa using hx
   obtain rfl : i = A.length := by omega
   rw [List.take_of_length_le (Nat.le_refl _), List.take_of_length_le (by omega)] at hb;subst hb
   repeat' (first
  | (refine zaf rfl ?_; simp [hx, hl])
  | fail)
   (refine Pst.of ?_; simp)
  ·have hlt : i < A.length := (List.getElem?_eq_some_iff.1 hx).1;have hlt2 : i < B.length := by omega
   obtain ⟨b, hy⟩ : ∃ b, B[i]? = some b := ⟨_, List.getElem?_eq_getElem hlt2⟩;have hi2 : (i : Int) < B.length := by omega
   by_cases hab : a = b
   ·have hsn : A.take (i + 1) = B.take (i + 1) := by
     rw [List.take_succ_eq_append_getElem hlt, List.take_succ_eq_append_getElem hlt2, hb, (List.getElem?_eq_some_iff.1 hx).2, (List.getElem?_eq_some_iff.1 hy).2, hab]
    subst hab;have hax : A[i]'hlt = a := (List.getElem?_eq_some_iff.1 hx).2;have hbx : B[i]'hlt2 = a := (List.getElem?_eq_some_iff.1 hy).2
    repeat' (first
  | (refine Cnd.of (fun hc => ?_) (fun hc => ?_) <;> (try (exfalso; omega)) <;> (try simp [hx, hy, hi2, hax, hbx]))
  | (refine zaf rfl ?_; simp [hx, hy, hi2, hax, hbx])
  | (refine And.intro (by omega) ?_)
  | (refine ⟨hC _ (by kernel_rfl), hk _ (zel 8 _ _ _ ?_)⟩; clear hC hk C k; simp [hx, hy, hi2, hax, hbx])
  | (refine zeW rfl (by kernel_rfl) (by first | (simp [hn]; done) | (simp [hn]; omega) | fail) fun C k hC hk => ?_; simp [hx, hy, hi2, hax, hbx])
  | fail)
    refine LoopW.next ⟨i + 1, by omega, hsn⟩ (by simp; omega) ?_
    exact (Wk.zeX (by simp [hn, hl] <;> grind))
   ·have hne : A ≠ B := fun e => by subst e; rw [hx] at hy; cases hy; exact hab rfl
    have hax : A[i]'hlt = a := (List.getElem?_eq_some_iff.1 hx).2;have hbx : B[i]'hlt2 = b := (List.getElem?_eq_some_iff.1 hy).2;rw [decide_eq_false hne];have hfa : ¬ (a.op = b.op /\ a.a = b.a /\ a.s = b.s) := fun ⟨h1, h2, h3⟩ => hab (by cases a; cases b; simp_all)
    repeat' (first
  | (refine Cnd.of (fun hc => ?_) (fun hc => ?_) <;> (try (exfalso; omega)) <;> (try simp [hx, hy, hi2, hax, hbx]))
  | (refine zaf rfl ?_; simp [hx, hy, hi2, hax, hbx])
  | (refine And.intro (by omega) ?_)
  | (refine ⟨hC _ (by kernel_rfl), hk _ (zel 8 _ _ _ ?_)⟩; clear hC hk C k; simp [hx, hy, hi2, hax, hbx])
  | (refine zeW rfl (by kernel_rfl) (by first | (simp [hn]; done) | (simp [hn]; omega) | fail) fun C k hC hk => ?_; simp [hx, hy, hi2, hax, hbx])
  | fail)
    (refine Pst.of ?_; simp)
    exact absurd (by assumption) hfa
 ·have hl' : ¬ (A.length : Int) = B.length := by omega
  have hne : ¬ A = B := fun e => hl (by rw [e]);refine Fun.run Tryz.func16 Tryz.ntmps16 Tryz.results16 rfl (by simp) fun Γ hn => ?_
  repeat' (first
  | (refine zaf rfl ?_; simp [hl, hl'])
  | fail)
  (refine Pst.of ?_; simp)
  simp [hne]
end Go.Proofs.YtkdhmbhbbciedaaGreatDoor
namespace Go.Proofs.YtkdhmbhbbciedaaGreatDoor
open Go Go.VL Go.Shelf Go.RowKit
def zkl (L : Code) (i : Nat) : List (Nat × Ob) := [(0, .box [.vec (i + 4) i]), (i + 4, .vec 44 3 (zdk (L.take i)))]
theorem zsD (t : W8) : ∃ (w r : W8) (b : Bool), zsE 32 t = .tup [.u (.str w), .u (.str r), .u (.bool b)] /\ zlK t = (if zjx wordsL w 0 = 1 then ⟨1, 0, r⟩ else ⟨zjx wordsL w 0, zk9 r, []⟩) /\ r.length <= t.length := by
 cases hc : zgM 32 t with
 | none => exact ⟨t, [], false, by simp [zsE, hc], by simp [zlK, hc], by simp⟩
 | some p => exact ⟨p.1, p.2, true, by simp [zsE, hc], by simp [zlK, hc], Nat.le_of_lt (zsB (p := p.1) hc)⟩
end Go.Proofs.YtkdhmbhbbciedaaGreatDoor
namespace Go.Proofs.YtkdhmbhbbciedaaGreatDoor
open Go Go.VL
theorem zlv {l : List Tok} (hl : TokOK l) {f p : Nat} (hE : zgS l f) (hf : 4 * (l.length - p) <= f) {t : Tok} (ht : l[p]? = some t) (hk : ¬ t.kind = 2) (h1 : isB l p [116, 114, 117, 101] = false) (h2 : isB l p [102, 97, 108, 115, 101] = false)
  (h3 : isB l p [109, 105, 110] = true) (h4 : isB l p [109, 97, 120] = false) {i nx : Nat} (hi : i < nx) :
  RetX Tryz.prog 170 [.ptr i 0] [(i, pOb l p)] nx (PPost l i nx zpi (zbc l (f + 1) p)) := ziA hl hE hf ht hk h1 h2 (.inr ⟨h3, h4⟩) hi
end Go.Proofs.YtkdhmbhbbciedaaGreatDoor
namespace Go.Proofs.YtkdhmbhbbciedaaGreatDoor
open Go Go.VL
attribute [local simp] zaY zcB zbz evPure opd uOf zal St.put St.at getK binD binI binS binB nilD aggD zeS zfd lookD lookR zbE rangeS Go.VL.nextD Go.VL.nextS zbJ zfk zfe zeu zb7 mkV zaZ zcH zaL za1 mapEff zdw zek Key.kk shiftI arith unD convD zcP loadD cellsAt fieldAddrD fieldD indexAddrD indexSlD arrAddr indexD sliceD cutD lenD minmaxD nilCheckD buildD fillD zbn zcC zd1 setAll zcx zdZ zbD zeO zbC St.add zaj za6 rowsOf zcI zca zad zac zaa zaQ zcs zaG entry za2 za3 valD zbK zcq zeL zcD zcE zbp zbo zag zaB za0 delAll effD St.effS zb4 zaD zas zb5 zaE zau zbl zat zan zbm zb2 zaW zbj zaJ zbi zah mkD zbd za4 zbb zag zbN D.ids Op.operands Call.operands za5 makeIfD makeFuncD typeAssertD zfc zcL zcM zeY zbG IntKind.bits zbQ zam List.take_of_length_le List.range_succ zci zbx zcj zcd za7 zbq zbs zce zbu zaP zbt zbr zfJ zbw zcg zaH zav zch zaI zax zbv zaw zaq zcm zcn zfH zab frzN frz1 zaO zaN St.frz St.frzS frzS fv zbI zbV zcb zaM zay zao frz zcc zbH zbS zbT zaX St.norm St.lp St.only zaS wkE wkO wkU Ob.under D.under zai zap zck zby zcl h4s zdG zar zaV List.zipIdx_cons List.zipIdx_nil List.map_cons List.map_nil Nat.zero_add
attribute [local irreducible] V G H HD HD2 zaT Eff CallP CallV EndOK Fun Ret FinOK LoopI LoopW EndW HR vs2 RN Cnd H4
theorem zoP (s : List UInt8) : Fun Tryz.prog 138 [.u (.str s)] (· = ziL (zoQ s)) := by
 unfold zoQ;by_cases hlong : 2000 < s.length
 ·have hlong2 : 2000 < (s.length : Int) := by omega
  rw [if_pos hlong];refine Fun.runW Tryz.func138 Tryz.ntmps138 rfl (by simp) fun Γ hn => ?_
  repeat' (first
  | (refine zaf rfl ?_; simp [hlong, hlong2])
  | fail)
  refine EndW.norm (EndW.here ?_)
  (refine EndOK.val (.inr rfl) ?_; simp [Tryz.results138])
  simp [ziL]
 rw [if_neg hlong];have hlong2 : ¬ 2000 < (s.length : Int) := by omega
 obtain ⟨R, hR⟩ : ∃ R, R = zoS (s.length + 1) s 0 := ⟨_, rfl⟩;rw [<- hR];refine Fun.runW Tryz.func138 Tryz.ntmps138 rfl (by simp) fun Γ hn => ?_
 repeat' (first
  | (refine zaf rfl ?_; simp [hlong, hlong2])
  | fail)
 refine zn9 _ (Wk.own 5 148 4 (by decide) rfl) ?_;simp [St.own];refine zdg (α := { x : List Tok × Nat × Nat // x.2.1 <= s.length /\ s.length < x.2.1 + x.2.2 /\ x.1.length <= x.2.1 /\ R = znd x.1 (zoS x.2.2 s x.2.1) }) [0] (fun x => [(5, .vec 0 x.1.1.length), (6, .u (.int .i64 x.1.2.1))]) (fun x => [(0, .vec 148 4 (zj6 x.1.1))]) 1 (fun x => x.1.2.2) ⟨([], 0, s.length + 1), by simp, by simp, by simp, by rw [zou, hR]⟩ ?_ ?_
 ·exact (Wk.zeX (by simp [hn, zj6] <;> grind))
 rintro ⟨⟨acc, p, f⟩, h1, h2, h3, h4⟩;simp only at h1 h2 h3 h4;simp;obtain ⟨f', rfl⟩ : ∃ f', f = f' + 1 := ⟨f - 1, by omega⟩;rw [zoS] at h4;have hsp := zfN (s.drop p) (by rw [List.length_drop]; omega) 166 zcG (fun c _ => zpG c) (by simp);have hle := zd6 zcG (s.drop p);rw [List.length_drop] at hle;obtain ⟨b, hb⟩ : ∃ b, b = zcY zcG (s.drop p) := ⟨_, rfl⟩;rw [<- hb] at hsp hle h4;have hp1 : (p : Int) <= s.length := by omega
 have hpb : (p : Int) + b <= s.length := by omega
 rcases hd : s.drop (p + b) with _ | ⟨c, r⟩
 ·have hdl : (s.drop (p + b)).length = 0 := by rw [hd]; rfl
  rw [List.length_drop] at hdl;have hpe : p + b = s.length := by omega
  have hpe2 : (p : Int) + b = s.length := by omega
  rw [hd] at h4;simp only at h4;have hap : zj6 acc ++ [[D.u (.int .i64 0), D.u (.str []), D.u (.int .i64 0), D.u (.int .i64 (s.length : Int))]] = zj6 (acc ++ [⟨0, [], 0, s.length⟩]) := by simp [zj6]
  have hlr : zh3 4 (zj6 acc) := fun r hr => by obtain ⟨t, _, rfl⟩ := List.mem_map.1 hr; rfl
  rw [hpe] at h4
  repeat' (first
  | (refine zaf rfl ?_; simp [h1, hp1, hpe2, zdR, hap, hlr])
  | (refine And.intro (by omega) ?_)
  | (refine CallP.f2 rfl (hsp) (by first | simp [h1, hp1, hpe2, zdR, hap, hlr] <;> rfl | fail) ?_; simp [h1, hp1, hpe2, zdR, hap, hlr])
  | fail)
  (refine EndW.frzN 3 ?_; simp [del, zmj, zdR, List.length_append])
  refine EndW.norm (EndW.here ?_)
  (refine EndOK.val (.inr rfl) ?_; simp [Tryz.results138, zmj, zdR, List.length_append])
  rw [h4];simp [znd, ziL]
 ·have hdl : (s.drop (p + b)).length = r.length + 1 := by rw [hd]; rfl
  rw [List.length_drop] at hdl;have hpe : ¬ p + b = s.length := by omega
  have hpe2 : ¬ (p : Int) + b = s.length := by omega
  have hnx := zqp (s.drop (p + b)) (by rw [hd]; simp) (by rw [List.length_drop]; omega);unfold nextD at hnx;rw [hd] at h4;simp only at h4;rw [hd] at hnx;have hpb2 : ((p : Int) + b).toNat = p + b := by omega
  have hpb3 : p + b <= s.length := by omega
  cases hno : zh9 (c :: r) with
  | error e =>
   rw [hno] at h4 hnx;have he : e ≠ 0 := by
    unfold zh9 at hno;simp only at hno;split at hno
    ·split at hno <;> cases hno;omega
    ·split at hno
     ·split at hno <;> cases hno;omega
     ·split at hno <;> cases hno;omega
   repeat' (first
  | (refine zaf rfl ?_; simp [h1, hp1, hpe, hpe2, hd, he, hpb, hpb2, hpb3])
  | (refine And.intro (by omega) ?_)
  | ((first | refine CallP.f2 rfl (hsp) (by first | simp [h1, hp1, hpe, hpe2, hd, he, hpb, hpb2, hpb3] <;> rfl | fail) ?_ | refine CallP.f2 rfl (hnx) (by first | simp [h1, hp1, hpe, hpe2, hd, he, hpb, hpb2, hpb3] <;> rfl | fail) ?_ | fail); simp [h1, hp1, hpe, hpe2, hd, he, hpb, hpb2, hpb3])
  | fail)
   refine EndW.norm (EndW.here ?_)
   (refine EndOK.val (.inr rfl) ?_; simp [Tryz.results138])
   rw [h4];simp [znd, ziL]
  | ok t =>
   rw [hno] at h4 hnx;obtain ⟨ht1, ht2⟩ := zgj hno;simp only [List.length_cons] at ht2;have hap : zj6 acc ++ [[D.u (.int .i64 t.kind), D.u (.str t.text), D.u (.int .i64 t.n), D.u (.int .i64 ((p : Int) + b))]] = zj6 (acc ++ [{ t with pos := ((p + b : Nat) : Int) }]) := by simp [zj6]
   have hlr : zh3 4 (zj6 acc) := fun r hr => by obtain ⟨t, _, rfl⟩ := List.mem_map.1 hr; rfl
   repeat' (first
  | (refine zaf rfl ?_; simp [h1, hp1, hpe, hpe2, hd, hpb, hpb2, hpb3, zdR, hap, hlr])
  | (refine And.intro (by omega) ?_)
  | ((first | refine CallP.f2 rfl (hsp) (by first | simp [h1, hp1, hpe, hpe2, hd, hpb, hpb2, hpb3, zdR, hap, hlr] <;> rfl | fail) ?_ | refine CallP.f2 rfl (hnx) (by first | simp [h1, hp1, hpe, hpe2, hd, hpb, hpb2, hpb3, zdR, hap, hlr] <;> rfl | fail) ?_ | fail); simp [h1, hp1, hpe, hpe2, hd, hpb, hpb2, hpb3, zdR, hap, hlr])
  | fail)
   refine LoopW.next ⟨(acc ++ [{ t with pos := ((p + b : Nat) : Int) }], p + b + t.text.length, f'), by simp; omega, by simp; omega, by simp; omega, ?_⟩ (by simp) ?_
   ·rw [h4];simp only;cases zoS f' s (p + b + t.text.length) <;> simp [znd]
   ·skip
    exact (Wk.ren ((fun i => if i = 0 then 3 else i)) rfl (by first | (simp [hn]; done) | (intro i hi; rw [hn] at hi; constructor <;> (try simp) <;> (try (intro _)) <;> omega)) (by simp [zfK, St.lp, zaS, zaa, getK, zac, zad, D.under, D.le, D.ren, zhl, zgc] <;> (try (intros; simp_all; done)) <;> (try omega)) (by simp [wkR, St.lp, zaa, getK, zac, zad, obR, leU, zbe, zaF, Ob.under, D.under, D.le, D.ren, zhl, zgc] <;> (try (intros; simp_all; done)) <;> (try omega)) (by simp [zhl, zgc]))
theorem zmP (lets : List Let) (y z : U) (n : Nat) (s : List UInt8) (hn' : n <= lets.length) (hn2 : n <= 1000) : Fun Tryz.prog 66 [.u (.row [zaz lets, y, z] 0), .u (.int .i64 n), .u (.str s)] (· = .u (.int .i64 (ixO (zfr lets n s)))) := by
 generalize hR : zfr lets n s = R;simp only [zaz];refine Fun.run Tryz.func66 Tryz.ntmps66 Tryz.results66 rfl (by simp) fun Γ hn => ?_
 repeat' (first
  | (refine zaf rfl ?_; simp)
  | (refine And.intro (by omega) ?_)
  | fail)
 refine zdD (α := { i : Nat // i <= n /\ zfr lets i s = R }) [0, 2] (fun i => [(7, .u (.int .i64 ((i.1 : Int) - 1)))]) (fun i => i.1) ⟨n, Nat.le_refl _, hR⟩ ?_ ?_
 ·exact (Wk.zeX (by simp [hn] <;> grind))
 rintro ⟨i, hi, hinv⟩;simp;cases i with
 | zero =>
  have hinv2 := hinv;rw [zfr] at hinv2;subst hinv2
  repeat' (first
  | (refine zaf rfl ?_; simp)
  | fail)
  (refine Pst.of ?_; simp)
  rfl
 | succ j =>
  have hj : j < lets.length := by omega
  have hl : lets[j]? = some lets[j] := List.getElem?_eq_getElem hj;have hsub : ((j + 1 : Nat) : Int) - 1 = (j : Int) := by omega
  have hsub2 : (j : Int) + 1 - 1 = (j : Int) := by omega
  generalize lets[j] = l at hl;have hinv2 := hinv;rw [zfr, hl] at hinv2;simp only at hinv2;by_cases hnm : l.name = s
  ·rw [if_pos hnm] at hinv2;subst hinv2
   repeat' (first
  | (refine zaf rfl ?_; simp [hsub, hsub2, hl, hnm])
  | fail)
   (refine Pst.of ?_; simp)
   rfl
  ·rw [if_neg hnm] at hinv2
   repeat' (first
  | (refine zaf rfl ?_; simp [hsub, hsub2, hl, hnm])
  | (refine And.intro (by omega) ?_)
  | fail)
   refine LoopW.next ⟨j, by omega, hinv2⟩ (by simp) ?_
   exact (Wk.zeX (by simp [hn] <;> grind))
theorem zdh (lets : List Let) (shs : List Bool) (z : U) (n : Nat) (hn' : n <= lets.length) (hn1 : n <= shs.length) (hn2 : n <= 1000) : ∀ (d : Nat) (e : Exp), zba d e = true -> Fun Tryz.prog 35 [.u (.row [zaz lets, zaA shs, z] 0), .u (.int .i64 n), zcF e] (· = .u (.bool (shareS (nmS lets shs n) e)))
 | 0, e, h => by simp [zba] at h
 | d + 1, e, h => by
  obtain ⟨h1, h2, h3, h4⟩ := zdT h;rw [zop];by_cases h0 : e.op = 0
  ·rw [if_pos h0];refine Fun.run Tryz.func35 Tryz.ntmps35 Tryz.results35 rfl (by simp) fun Γ hn => ?_; simp only [entry, List.zipIdx_cons, List.zipIdx_nil, List.map_cons, List.map_nil, Nat.zero_add];simp only [zcF]
   repeat' (first
  | (refine zaf rfl ?_; simp [h0])
  | fail)
   (refine Pst.of ?_; simp)
  rw [if_neg h0];by_cases hnm : e.op = 1
  ·rw [if_pos hnm];have hlet := zmP lets (zaA shs) z n e.s hn' hn2;cases hi : zfr lets n e.s with
   | none =>
    rw [hi] at hlet;simp only [ixO, zaA, zaz] at hlet;refine Fun.run Tryz.func35 Tryz.ntmps35 Tryz.results35 rfl (by simp) fun Γ hn => ?_; simp only [entry, List.zipIdx_cons, List.zipIdx_nil, List.map_cons, List.map_nil, Nat.zero_add];simp only [zcF, zaA, zaz]
    repeat' (first
  | (refine zaf rfl ?_; simp [h0, hnm])
  | (refine CallP.f2 rfl (hlet) (by first | simp [h0, hnm] <;> rfl | fail) ?_; simp [h0, hnm])
  | fail)
    (refine Pst.of ?_; simp)
    simp [nmS, hi]
   | some i =>
    rw [hi] at hlet;simp only [ixO, zaA, zaz] at hlet;obtain ⟨q1, _⟩ := zgl hi;have q2 : i < shs.length := by omega
    have q3 : shs[i]? = some shs[i] := List.getElem?_eq_getElem q2;have q4 : shs.getD i false = shs[i] := by rw [List.getD_eq_getElem?_getD, q3]; rfl
    have q5 : (i : Int) < shs.length := by omega
    have q6 : ¬ (i : Int) < 0 := by omega
    refine Fun.run Tryz.func35 Tryz.ntmps35 Tryz.results35 rfl (by simp) fun Γ hn => ?_; simp only [entry, List.zipIdx_cons, List.zipIdx_nil, List.map_cons, List.map_nil, Nat.zero_add];simp only [zcF, zaA, zaz]
    repeat' (first
  | (refine zaf rfl ?_; simp [h0, hnm, q2, q6])
  | (refine CallP.f2 rfl (hlet) (by first | simp [h0, hnm, q2, q6] <;> rfl | fail) ?_; simp [h0, hnm, q2, q6])
  | fail)
    (refine Pst.of ?_; simp)
    simp [nmS, hi, q2]
  rw [if_neg hnm];have hr := h4 h0 hnm;by_cases hA : e.op = 2 \/ e.op = 3 \/ e.op = 6 \/ e.op = 7
  ·rw [if_pos hA];have hl : e.args.length = 2 := by
    rcases hA with ha | ha | ha | ha <;> rw [ha] at h1 <;> simp [zcu] at h1 <;> omega
   obtain ⟨a, b, hab⟩ : ∃ a b, e.args = [a, b] := by
    match hq : e.args, hl with
    | [a, b], _ => exact ⟨a, b, rfl⟩
   have h5 := zdh lets shs z n hn' hn1 hn2 d a (hr a (by simp [hab]));simp only [zcF, zaA, zaz] at h5;rw [hab, zb9];rcases hA with ha | ha | ha | ha
   all_goals
    refine Fun.run Tryz.func35 Tryz.ntmps35 Tryz.results35 rfl (by simp) fun Γ hn => ?_; simp only [entry, List.zipIdx_cons, List.zipIdx_nil, List.map_cons, List.map_nil, Nat.zero_add];simp only [zcF, zaA, zaz]
    repeat' (first
  | (refine zaf rfl ?_; simp [ha, hab, a.row_eq, b.row_eq])
  | (refine CallP.f2 rfl (h5) (by first | simp [ha, hab, a.row_eq, b.row_eq] <;> rfl | fail) ?_; simp [ha, hab, a.row_eq, b.row_eq])
  | fail)
    (refine Pst.of ?_; simp)
  rw [if_neg hA];by_cases hB : e.op = 4
  ·rw [if_pos hB];have hl : e.args.length = 2 := by rw [hB] at h1; simp [zcu] at h1; omega
   obtain ⟨a, b, hab⟩ : ∃ a b, e.args = [a, b] := by
    match hq : e.args, hl with
    | [a, b], _ => exact ⟨a, b, rfl⟩
   have h5 := zdh lets shs z n hn' hn1 hn2 d a (hr a (by simp [hab]));have h6 := zdh lets shs z n hn' hn1 hn2 d b (hr b (by simp [hab]));simp only [zcF, zaA, zaz] at h5 h6;rw [hab, zb9, zb9, zb9];generalize shareS (nmS lets shs n) a = x1 at h5 ⊢;generalize shareS (nmS lets shs n) b = x2 at h6 ⊢;refine Fun.run Tryz.func35 Tryz.ntmps35 Tryz.results35 rfl (by simp) fun Γ hn => ?_; simp only [entry, List.zipIdx_cons, List.zipIdx_nil, List.map_cons, List.map_nil, Nat.zero_add];simp only [zcF, zaA, zaz]
   repeat' (first
  | (refine Cnd.of (fun hc => ?_) (fun hc => ?_) <;> (try (exfalso; omega)) <;> (try simp [hB, hab, a.row_eq, b.row_eq]))
  | (refine zaf rfl ?_; simp [hB, hab, a.row_eq, b.row_eq])
  | ((first | refine CallP.f2 rfl (h5) (by first | simp [hB, hab, a.row_eq, b.row_eq] <;> rfl | fail) ?_ | refine CallP.f2 rfl (h6) (by first | simp [hB, hab, a.row_eq, b.row_eq] <;> rfl | fail) ?_ | fail); simp [hB, hab, a.row_eq, b.row_eq])
  | fail)
   all_goals
    (refine Pst.of ?_; simp)
   all_goals (simp_all; done)
  rw [if_neg hB];by_cases hC' : e.op = 13
  ·rw [if_pos hC'];have hl : e.args.length = 3 := by rw [hC'] at h1; simp [zcu] at h1; omega
   obtain ⟨a, b, c, hab⟩ : ∃ a b c, e.args = [a, b, c] := by
    match hq : e.args, hl with
    | [a, b, c], _ => exact ⟨a, b, c, rfl⟩
   have h5 := zdh lets shs z n hn' hn1 hn2 d b (hr b (by simp [hab]));simp only [zcF, zaA, zaz] at h5;rw [hab, zb9, zb9];refine Fun.run Tryz.func35 Tryz.ntmps35 Tryz.results35 rfl (by simp) fun Γ hn => ?_; simp only [entry, List.zipIdx_cons, List.zipIdx_nil, List.map_cons, List.map_nil, Nat.zero_add];simp only [zcF, zaA, zaz]
   repeat' (first
  | (refine zaf rfl ?_; simp [hC', hab, a.row_eq, b.row_eq, c.row_eq])
  | (refine CallP.f2 rfl (h5) (by first | simp [hC', hab, a.row_eq, b.row_eq, c.row_eq] <;> rfl | fail) ?_; simp [hC', hab, a.row_eq, b.row_eq, c.row_eq])
  | fail)
   (refine Pst.of ?_; simp)
  rw [if_neg hC'];have hD : ¬ e.op = 2 /\ ¬ e.op = 3 /\ ¬ e.op = 6 /\ ¬ e.op = 7 := by omega
  obtain ⟨g1, g2, g3, g4⟩ := hD;refine Fun.run Tryz.func35 Tryz.ntmps35 Tryz.results35 rfl (by simp) fun Γ hn => ?_; simp only [entry, List.zipIdx_cons, List.zipIdx_nil, List.map_cons, List.map_nil, Nat.zero_add];simp only [zcF, zaA, zaz]
  repeat' (first
  | (refine zaf rfl ?_; simp [h0, hnm, g1, g2, g3, g4, hB, hC'])
  | fail)
  (refine Pst.of ?_; simp)
theorem zow (lets : List Let) (shs : List Bool) (z : U) (n : Nat) (hn' : n <= lets.length) (hn1 : n <= shs.length) (hn2 : n <= 1000) (d : Nat) (e : Exp) (h : zba (d + 1) e = true) (hop : 2 <= e.op /\ e.op <= 9 \/ e.op = 12) :
  Fun Tryz.prog 68 [.u (.row [zaz lets, zaA shs, z] 0), .u (.int .i64 n), zcF e] (· = .u (.int .i64 (zbY (shareS (nmS lets shs n)) e.op e.args))) := by
 obtain ⟨h1, h2, h3, h4⟩ := zdT h;have hr := h4 (by omega) (by omega);by_cases hB : e.op = 4
 ·have hl : e.args.length = 2 := by rw [hB] at h1; simp [zcu] at h1; omega
  obtain ⟨a, b, hab⟩ : ∃ a b, e.args = [a, b] := by
   match hq : e.args, hl with
   | [a, b], _ => exact ⟨a, b, rfl⟩
  have h5 := zdh lets shs z n hn' hn1 hn2 d a (hr a (by simp [hab]));have h6 := zdh lets shs z n hn' hn1 hn2 d b (hr b (by simp [hab]));simp only [zcF, zaA, zaz] at h5 h6;have hp : zbY (shareS (nmS lets shs n)) e.op e.args = if (shareS (nmS lets shs n) a || shareS (nmS lets shs n) b) = true then 6 else 4 := by simp [zbY, hB, hab]
  rw [hp];generalize shareS (nmS lets shs n) a = x1 at h5 ⊢;generalize shareS (nmS lets shs n) b = x2 at h6 ⊢;refine Fun.run Tryz.func68 Tryz.ntmps68 Tryz.results68 rfl (by simp) fun Γ hn => ?_; simp only [entry, List.zipIdx_cons, List.zipIdx_nil, List.map_cons, List.map_nil, Nat.zero_add];simp only [zcF, zaA, zaz]
  repeat' (first
  | (refine Cnd.of (fun hc => ?_) (fun hc => ?_) <;> (try (exfalso; omega)) <;> (try simp [hB, hab, a.row_eq, b.row_eq]))
  | (refine zaf rfl ?_; simp [hB, hab, a.row_eq, b.row_eq])
  | ((first | refine CallP.f2 rfl (h5) (by first | simp [hB, hab, a.row_eq, b.row_eq] <;> rfl | fail) ?_ | refine CallP.f2 rfl (h6) (by first | simp [hB, hab, a.row_eq, b.row_eq] <;> rfl | fail) ?_ | fail); simp [hB, hab, a.row_eq, b.row_eq])
  | fail)
  all_goals
   (refine Pst.of ?_; simp)
  all_goals (simp_all; done)
 ·rcases (show e.op = 2 \/ e.op = 3 \/ e.op = 5 \/ e.op = 6 \/ e.op = 7 \/ e.op = 8 \/ e.op = 9 \/ e.op = 12 by omega) with ho | ho | ho | ho | ho | ho | ho | ho
  all_goals
   have hp : ∃ r, zbY (shareS (nmS lets shs n)) e.op e.args = r /\ r = zbY (shareS (nmS lets shs n)) e.op [] := ⟨_, rfl, by simp [zbY, ho]⟩;obtain ⟨r, hp1, hp2⟩ := hp;rw [hp1];rw [ho] at hp2;simp only [zbY, if_true, if_false, if_pos, if_neg, Int.reduceEq] at hp2;subst hp2;refine Fun.run Tryz.func68 Tryz.ntmps68 Tryz.results68 rfl (by simp) fun Γ hn => ?_; simp only [entry, List.zipIdx_cons, List.zipIdx_nil, List.map_cons, List.map_nil, Nat.zero_add];simp only [zcF, zaA, zaz]
   repeat' (first
  | (refine zaf rfl ?_; simp [ho])
  | fail)
   (refine Pst.of ?_; simp)
theorem zqQ (x y : U) (code : Code) : Fun Tryz.prog 37 [.u (.row [x, y, Vm.inss code] 0)] (· = .u (.bool (decide (2000 <= code.length)))) := by
 simp only [Vm.inss];refine Fun.run Tryz.func37 Tryz.ntmps37 Tryz.results37 rfl (by simp) fun Γ hn => ?_
 repeat' (first
  | (refine zaf rfl ?_; simp)
  | fail)
 all_goals
  (refine Pst.of ?_; simp)
 all_goals first | omega | (simp; omega)
theorem znQ (op : Int) : Fun Tryz.prog 48 [.u (.int .i64 op)] (· = .tup [.u (.int .i64 (zcZ op)), .u (.int .i64 (zbZ op))]) := by
 refine Fun.run Tryz.func48 Tryz.ntmps48 Tryz.results48 rfl (by simp) fun Γ hn => ?_
 repeat' (first
  | (refine Cnd.of (fun hc => ?_) (fun hc => ?_) <;> (try (exfalso; omega)) <;> (try simp))
  | (refine zaf rfl ?_; simp)
  | fail)
 all_goals
  (refine Pst.of ?_; simp)
 all_goals (unfold zcZ zbZ; simp_all)
theorem znI (l : Code) (i : Nat) (x : Ins) (hx : l[i]? = some x) (hl : l.length <= 1000000) : Fun Tryz.prog 47 [.u (Vm.inss l), .u (.int .i64 i)] (· = .u (.bool (zdM x i l.length))) := by
 have hi := (List.getElem?_eq_some_iff.1 hx).1;have hnam := zjr x.s;unfold zdM;generalize zgP x.s = nm at hnam ⊢;obtain ⟨op, a, s⟩ := x;simp only [Vm.inss] at hnam ⊢;refine Fun.run Tryz.func47 Tryz.ntmps47 Tryz.results47 rfl (by simp) fun Γ hn => ?_
 repeat' (first
  | (refine Cnd.of (fun hc => ?_) (fun hc => ?_) <;> (try (exfalso; omega)) <;> (try simp [hx, Vm.Ins.row]))
  | (refine zaf rfl ?_; simp [hx, Vm.Ins.row])
  | (refine CallP.f2 rfl (hnam) (by first | simp [hx, Vm.Ins.row] <;> rfl | fail) ?_; simp [hx, Vm.Ins.row])
  | fail)
 all_goals
  (refine Pst.of ?_; simp)
 all_goals grind
theorem zew (l : Code) (hll : l.length <= 1000000) : Fun Tryz.prog 17 [.u (Vm.inss l)] (· = .u (.bool (zct l))) := by
 have hl1 : ((l.length : Int) + 1).toNat = l.length + 1 := by omega
 simp only [Vm.inss];refine Fun.run Tryz.func17 Tryz.ntmps17 Tryz.results17 rfl (by simp) fun Γ hn => ?_; simp only [entry, List.zipIdx_cons, List.zipIdx_nil, List.map_cons, List.map_nil, Nat.zero_add];by_cases h0 : l.length = 0
 ·have h0' : l = [] := by simpa using h0
  subst h0'
  repeat' (first
  | (refine zaf rfl ?_; simp)
  | fail)
  (refine Pst.of ?_; simp)
  simp [zct]
 have h0' : ¬ l = [] := by simpa using h0
 by_cases h2 : 2000 < l.length
 ·have h2' : (2000 : Int) < l.length := by omega
  repeat' (first
  | (refine zaf rfl ?_; simp [h0', h2, h2'])
  | fail)
  (refine Pst.of ?_; simp)
  unfold zct;rw [decide_eq_false (show ¬ l.length <= 2000 by omega)];simp
 have h2' : ¬ (2000 : Int) < l.length := by omega
 repeat' (first
  | (refine zaf rfl ?_; simp [h0', h2, h2', hl1])
  | (refine And.intro (by omega) ?_)
  | fail)
 refine zdg (α := { i : Nat // i <= l.length /\ ∀ j x, j < i -> l[j]? = some x -> zdM x j l.length = true }) [0, 3, 26] (fun i => [(27, .u (.int .i64 i.1))]) (fun i => [(0, .vec 3 1 (ziO (hi1 l.length i.1)))]) 1 (fun i => l.length - i.1) ⟨0, by omega, by omega⟩ ?_ ?_
 ·exact (Wk.zeX (by simp [hn, zqP, zqL, zdx] <;> grind))
 rintro ⟨i, hi, hf⟩;simp;rcases hx : l[i]? with _ | x
 ·have hge : l.length <= i := by simpa using hx
  obtain rfl : i = l.length := by omega
  have hfm : ziT l = true := znH fun j x hj => hf j x (List.getElem?_eq_some_iff.1 hj).1 hj
  repeat' (first
  | (refine zaf rfl ?_; simp [hx])
  | fail)
  refine zdg (α := HiAt l) [0, 3, 39, 40] (fun s => [(41, .u (.int .i64 s.i))]) (fun s => [(0, .vec 3 1 (ziO s.hi))]) 1 (fun s => l.length - s.i) ⟨0, _, by omega, rfl, by simp, fun z hz => by
   rcases List.mem_cons.1 hz with rfl | hz
   ·omega
   ·rw [List.eq_of_mem_replicate hz]; omega⟩ ?_ ?_
  ·exact (Wk.zeX (by simp [hn, zss, zdx] <;> grind))
  rintro ⟨i, hi, hle, go, len, lo⟩;simp;rcases hy : l[i]? with _ | y
  ·have hge : l.length <= i := by simpa using hy
   obtain rfl : i = l.length := by omega
   obtain ⟨w, hw⟩ : ∃ w, hi[l.length]? = some w := ⟨_, List.getElem?_eq_getElem (by omega)⟩;have hR : zct l = decide (w < 0) := by
    have : hi.getD l.length (-1) = w := by simp [List.getD, hw]
    unfold zct;rw [go, hfm, decide_eq_true (show 0 < l.length by omega), decide_eq_true (show l.length <= 2000 by omega)];simp only [this, Bool.true_and]
   rw [hR]
   repeat' (first
  | (refine zaf rfl ?_; simp [hy, zbh, za8, hw])
  | (refine And.intro ?_ (by omega))
  | fail)
   (refine Pst.of ?_; simp)
  have hlt : i < l.length := (List.getElem?_eq_some_iff.1 hy).1;have h5 := znQ y.op;obtain ⟨v, hv⟩ : ∃ v, hi[i]? = some v := ⟨_, List.getElem?_eq_getElem (by omega)⟩;have hvb := lo v (List.mem_of_getElem? hv);have hst := zqj go hy hv;obtain ⟨n1, n2⟩ := zqr y.op;obtain ⟨m1, m2⟩ := znv y.op;by_cases hv0 : v < 0
  ·rw [if_pos hv0] at hst
   repeat' (first
  | (refine Cnd.of (fun hc => ?_) (fun hc => ?_) <;> (try (exfalso; omega)) <;> (try simp [hy, zbh, za8, hv, hv0]))
  | (refine zaf rfl ?_; simp [hy, zbh, za8, hv, hv0])
  | (refine And.intro (by omega) ?_)
  | (refine And.intro ?_ (by omega))
  | (refine CallP.f2 rfl (h5) (by first | simp [hy, zbh, za8, hv, hv0] <;> rfl | fail) ?_; simp [hy, zbh, za8, hv, hv0])
  | fail)
   refine LoopW.next ⟨i + 1, hi, by omega, hst, len, fun z hz => by have := lo z hz; omega⟩ (by simp; omega) ?_
   exact (Wk.zeX (by simp [hn, zdx] <;> grind))
  rw [if_neg hv0] at hst;by_cases hbad : v < zcZ y.op \/ (y.op = 14 /\ v ≠ 1)
  ·rw [if_pos hbad] at hst;rw [zix hst hlt];rcases hbad with hb1 | ⟨hb1, hb2⟩
   ·repeat' (first
  | (refine Cnd.of (fun hc => ?_) (fun hc => ?_) <;> (try (exfalso; omega)) <;> (try simp [hy, zbh, za8, hv, hv0, hb1]))
  | (refine zaf rfl ?_; simp [hy, zbh, za8, hv, hv0, hb1])
  | (refine And.intro (by omega) ?_)
  | (refine And.intro ?_ (by omega))
  | (refine CallP.f2 rfl (h5) (by first | simp [hy, zbh, za8, hv, hv0, hb1] <;> rfl | fail) ?_; simp [hy, zbh, za8, hv, hv0, hb1])
  | fail)
    (refine Pst.of ?_; simp)
   ·repeat' (first
  | (refine Cnd.of (fun hc => ?_) (fun hc => ?_) <;> (try (exfalso; omega)) <;> (try simp [hy, zbh, za8, hv, hv0, hb2, ((propext (iff_true_intro hb1)) : (y.op = 14) = True)]))
  | (refine zaf rfl ?_; simp [hy, zbh, za8, hv, hv0, hb2, ((propext (iff_true_intro hb1)) : (y.op = 14) = True)])
  | (refine And.intro (by omega) ?_)
  | (refine And.intro ?_ (by omega))
  | (refine CallP.f2 rfl (h5) (by first | simp [hy, zbh, za8, hv, hv0, hb2, ((propext (iff_true_intro hb1)) : (y.op = 14) = True)] <;> rfl | fail) ?_; simp [hy, zbh, za8, hv, hv0, hb2, ((propext (iff_true_intro hb1)) : (y.op = 14) = True)])
  | fail)
    all_goals
     (refine Pst.of ?_; simp)
  rw [if_neg hbad] at hst;have hb1 : ¬ v < zcZ y.op := fun h => hbad (.inl h);by_cases h14 : y.op = 14
  ·have hv1 : v = 1 := Classical.byContradiction fun h => hbad (.inr ⟨h14, h⟩);have hn14 : zeQ y i = [] := by simp [zeQ, h14]
   rw [hn14] at hst;simp only [zh7] at hst;subst hv1
   repeat' (first
  | (refine Cnd.of (fun hc => ?_) (fun hc => ?_) <;> (try (exfalso; omega)) <;> (try simp [hy, zbh, za8, hv, hb1, ((propext (iff_true_intro h14)) : (y.op = 14) = True)]))
  | (refine ztY ?_)
  | (refine zaf rfl ?_; simp [hy, zbh, za8, hv, hb1, ((propext (iff_true_intro h14)) : (y.op = 14) = True)])
  | (refine And.intro (by omega) ?_)
  | (refine And.intro ?_ (by omega))
  | (refine CallP.f2 rfl (h5) (by first | simp [hy, zbh, za8, hv, hb1, ((propext (iff_true_intro h14)) : (y.op = 14) = True)] <;> rfl | fail) ?_; simp [hy, zbh, za8, hv, hb1, ((propext (iff_true_intro h14)) : (y.op = 14) = True)])
  | fail)
   refine LoopW.next ⟨i + 1, hi, by omega, hst, len, fun z hz => by have := lo z hz; omega⟩ (by simp; omega) ?_
   exact (Wk.zeX (by simp [hn, zdx] <;> grind))
  have hfo := zfY hfm hy;obtain ⟨ks, hks, hcase⟩ : ∃ ks : List Nat, zeQ y i = ks /\ (((y.op = 12) = True /\ ((12 : Int) = 13) = False /\ ks = [y.a.toNat] /\ ((y.a.toNat : Nat) : Int) = y.a) \/ ((y.op = 12) = False /\ (y.op = 13) = True /\ ks = [i + 1, y.a.toNat] /\ ((y.a.toNat : Nat) : Int) = y.a) \/
    ((y.op = 12) = False /\ (y.op = 13) = False /\ ks = [i + 1] /\ ((i + 1 : Nat) : Int) = i + 1)) := by
   refine ⟨_, rfl, ?_⟩;unfold zeQ;unfold zdM at hfo;by_cases h12 : y.op = 12
   ·simp [h12] at hfo ⊢; omega
   by_cases h13 : y.op = 13
   ·simp [h13] at hfo ⊢; omega
   ·simp [h12, h13, h14]
  rw [hks] at hst;have hk1 : ∀ k ∈ ks, i < k /\ k <= l.length := hks ▸ zsj hfm hy;have hvi : v <= i := hvb.2;rcases hcase with ⟨hA, hB, hE, hat⟩ | ⟨hA, hB, hE, hat⟩ | ⟨hA, hB, hE, hat⟩
  all_goals
   have hL := congrArg List.length hE;simp at hL
   repeat' (first
  | (refine Cnd.of (fun hc => ?_) (fun hc => ?_) <;> (try (exfalso; omega)) <;> (try simp [hy, zbh, za8, hv, hv0, hb1, (eq_false h14 : (y.op = 14) = False), hA, hB]))
  | (refine zaf rfl ?_; simp [hy, zbh, za8, hv, hv0, hb1, (eq_false h14 : (y.op = 14) = False), hA, hB])
  | (refine And.intro (by omega) ?_)
  | (refine And.intro ?_ (by omega))
  | (refine CallP.f2 rfl (h5) (by first | simp [hy, zbh, za8, hv, hv0, hb1, (eq_false h14 : (y.op = 14) = False), hA, hB] <;> rfl | fail) ?_; simp [hy, zbh, za8, hv, hv0, hb1, (eq_false h14 : (y.op = 14) = False), hA, hB])
  | fail)
   refine zdg (α := NxAt ks (v - zcZ y.op + zbZ y.op) hi i) [0, 3, 5, 7, 8, 39, 40, 41, 96, 97] (fun s => [(98, .u (.int .i64 s.j))])
    (fun s => [(0, .vec 3 1 (ziO s.hj)), (2, .vec 3 1 (ziO (ks.map fun k : Nat => (k : Int))))]) 3 (fun s => ks.length - s.j) ⟨0, hi, by omega, by simp, rfl, rfl, fun z hz => by have := lo z hz; omega⟩ ?_ ?_
   ·exact (Wk.zeX (by simp [hn, hE, ziO, hat] <;> grind))
   rintro ⟨j, hj, hjle, hgo, hlen, hat2, hjlo⟩;simp;have hvj : hj[i]? = some v := hat2.trans hv;rcases hz : ks[j]? with _ | k
   ·have hge : ks.length <= j := by simpa using hz
    rw [hgo, List.drop_of_length_le hge] at hst;simp only [zh7] at hst
    repeat' (first
  | (refine Cnd.of (fun hc => ?_) (fun hc => ?_) <;> (try (exfalso; omega)) <;> (try simp [hz, zbh, za8]))
  | (refine zaf rfl ?_; simp [hz, zbh, za8])
  | (refine And.intro (by omega) ?_)
  | fail)
    refine LoopW.next ⟨i + 1, hj, by omega, hst, by omega, fun z hz => by have := hjlo z hz; omega⟩ (by simp; omega) ?_
    exact (Wk.zeX (by simp [hn, zdx] <;> grind))
   ·have hjl := (List.getElem?_eq_some_iff.1 hz).1;obtain ⟨k1, k2⟩ := hk1 k (List.mem_of_getElem? hz);obtain ⟨w, hw⟩ : ∃ w, hj[k]? = some w := ⟨_, List.getElem?_eq_getElem (by omega)⟩;have hwb := hjlo w (List.mem_of_getElem? hw);have hsH : zuc hj k (v - zcZ y.op + zbZ y.op) = if 0 <= w /\ w ≠ v - zcZ y.op + zbZ y.op then none else some (hj.set k (v - zcZ y.op + zbZ y.op)) := by
     unfold zuc;simp [List.getD, hw]
    rw [zm9 hz, hsH] at hgo;by_cases hbd : 0 <= w /\ w ≠ v - zcZ y.op + zbZ y.op
    ·rw [if_pos hbd] at hgo;rw [hgo] at hst;rw [zix hst hlt];obtain ⟨hbd1, hbd2⟩ := hbd
     repeat' (first
  | (refine Cnd.of (fun hc => ?_) (fun hc => ?_) <;> (try (exfalso; omega)) <;> (try simp [hz, zbh, za8, hvj, hw, hbd1, hbd2]))
  | (refine zaf rfl ?_; simp [hz, zbh, za8, hvj, hw, hbd1, hbd2])
  | (refine And.intro (by omega) ?_)
  | (refine And.intro ?_ (by omega))
  | fail)
     (refine Pst.of ?_; simp)
    ·rw [if_neg hbd] at hgo
     repeat' (first
  | (refine Cnd.of (fun hc => ?_) (fun hc => ?_) <;> (try (exfalso; omega)) <;> (try simp [hz, zbh, za8, hvj, hw, zfR]))
  | (refine zaf rfl ?_; simp [hz, zbh, za8, hvj, hw, zfR])
  | (refine And.intro (by omega) ?_)
  | (refine And.intro ?_ (by omega))
  | fail)
     all_goals
      refine LoopW.next ⟨j + 1, hj.set k (v - zcZ y.op + zbZ y.op), by omega, hgo, by simp [hlen], by rw [List.getElem?_set_ne (by omega)]; exact hat2, fun z hz => ?_⟩ (by simp; omega) ?_
      ·rcases List.mem_or_eq_of_mem_set hz with hz | hz
       ·exact hjlo z hz
       ·omega
      exact (Wk.zeX (by simp [hn, zdx] <;> grind))
 ·have hlt : i < l.length := (List.getElem?_eq_some_iff.1 hx).1;have h4 := znI l i x hx (by omega);have ht : ((i : Int) + 1).toNat = i + 1 := by omega
  simp only [Vm.inss] at h4;by_cases hfx : zdM x i l.length = true
  ·rw [hfx] at h4
   repeat' (first
  | (refine zaf rfl ?_; simp [hlt, ht, zhB, za8, zfR, zlN hi, zlM hlt])
  | (refine And.intro (by omega) ?_)
  | (refine CallP.f2 rfl (h4) (by first | simp [hlt, ht, zhB, za8, zfR, zlN hi, zlM hlt] <;> rfl | fail) ?_; simp [hlt, ht, zhB, za8, zfR, zlN hi, zlM hlt])
  | fail)
   refine LoopW.next ⟨i + 1, by omega, fun j y hj hy => ?_⟩ (by simp; omega) ?_
   ·rcases Nat.lt_succ_iff_lt_or_eq.1 hj with h1 | h1
    ·exact hf j y h1 hy
    ·subst h1; rw [hx] at hy; cases hy; exact hfx
   exact (Wk.zeX (by simp [hn, zdx] <;> grind))
  ·rw [Bool.not_eq_true] at hfx;rw [hfx] at h4
   repeat' (first
  | (refine zaf rfl ?_; simp [hlt])
  | (refine CallP.f2 rfl (h4) (by first | simp [hlt] <;> rfl | fail) ?_; simp [hlt])
  | fail)
   (refine Pst.of ?_; simp)
   have : ziT l = false := by
    rw [<- Bool.not_eq_true];intro h;rw [zfY h hx] at hfx;cases hfx
   simp [zct, this]
abbrev zud (o : Opr) : D := .u (.agg [.str o.text, .int .i64 o.op, .int .i64 o.form])
abbrev zoA (l : List Opr) : U := .sl (l.map fun o => [.str o.text, .int .i64 o.op, .int .i64 o.form])
theorem zjo : Fun Tryz.prog 141 [] (· = .u (zoA oprs)) := by
 unfold zoA oprs;refine Fun.runW Tryz.func141 Tryz.ntmps141 rfl (by simp) fun Γ hn => ?_
 repeat' (first
  | (refine zaf rfl ?_; simp [za3, za2])
  | fail)
 (refine EndW.frzN 1 ?_; simp [del])
 refine EndW.here ?_
 (refine EndOK.val (.inr rfl) ?_; simp [Tryz.results141])
theorem zqT (l : List Tok) (q : Nat) (o : Opr) (hq : q < l.length) (hl : l.length <= 1000000) : Fun Tryz.prog 142 (zud o :: [U.row [zrO l q] 0].map .u) (· = .u (.bool (isB l q o.text))) := by
 have h1 := zgI l q o.text hq hl;simp only [List.map_cons, List.map_nil, zud];refine Fun.run Tryz.func142 Tryz.ntmps142 Tryz.results142 rfl (by simp) fun Γ hn => ?_
 repeat' (first
  | (refine zaf rfl ?_; simp)
  | (refine CallP.f2 rfl (h1) (by first | simp <;> rfl | fail) ?_; simp)
  | fail)
 (refine Pst.of ?_; simp)
theorem znC (l : List (Opr)) (f : FuncId) (caps : List U) (p : Opr -> Bool) (hf : ∀ n ∈ l, Fun Tryz.prog f (zud n :: caps.map .u) (· = .u (.bool (p n)))) (hcl : zae Tryz.prog f = true)
  (hca : ∀ o, zcq o (caps.map .u) = some (caps.map .u, [])) : Fun Tryz.prog 140 [.u (zoA l), .fnc (.func f) (caps.map .u)] (· = .u (.int .i64 (zjy p l 0))) := by
 refine Fun.run Tryz.func140 Tryz.ntmps140 Tryz.results140 rfl (by simp) fun Γ hn => ?_; simp only [entry, List.zipIdx_cons, List.zipIdx_nil, List.map_cons, List.map_nil, Nat.zero_add];simp only [zoA];refine zjW (x := 0) rfl fun hl => ?_;simp at hl
 repeat' (first
  | (refine zaf rfl ?_; simp)
  | fail)
 refine zdD (α := { i : Nat // i <= l.length /\ ∀ c ∈ l.take i, p c = false }) [0, 1, 7] (fun i => [(8, .u (.int .i64 i.1))]) (fun i => l.length - i.1) ⟨0, by omega, by simp⟩ ?_ ?_
 ·exact (Wk.env rfl rfl rfl (by simp [wkE, St.lp, zaS, zaa, getK] <;> (try (intros; simp_all; done)) <;> (try (intros; omega)) <;> (try grind)))
 rintro ⟨i, hi, hb⟩;simp;rcases hx : l[i]? with _ | n
 ·have hge : l.length <= i := by simpa using hx
  repeat' (first
  | (refine Cnd.of (fun hc => ?_) (fun hc => ?_) <;> (try (exfalso; omega)) <;> (try simp [hx]))
  | (refine zaf rfl ?_; simp [hx])
  | fail)
  (refine Pst.of ?_; simp)
  rw [List.take_of_length_le hge] at hb;exact (zhH hb).symm
 ·have hlt : i < l.length := (List.getElem?_eq_some_iff.1 hx).1;have h1 := hf n (List.mem_of_getElem? hx);simp only [zud] at h1;cases hp : p n
  ·rw [hp] at h1
   repeat' (first
  | (refine Cnd.of (fun hc => ?_) (fun hc => ?_) <;> (try (exfalso; omega)) <;> (try simp [hx, hca]))
  | (refine zaf rfl ?_; simp [hx, hca])
  | (refine And.intro (by omega) ?_)
  | (refine CallP.f2 rfl (h1) (by first | simp [hx, hca] <;> rfl | fail) ?_; simp [hx, hca])
  | fail)
   refine LoopW.next ⟨i + 1, by omega, zcT hx hb hp⟩ (by simp; omega) ?_
   exact (Wk.env rfl rfl rfl (by simp [wkE, St.lp, zaS, zaa, getK] <;> (try (intros; simp_all; done)) <;> (try (intros; omega)) <;> (try grind)))
  ·rw [hp] at h1
   repeat' (first
  | (refine Cnd.of (fun hc => ?_) (fun hc => ?_) <;> (try (exfalso; omega)) <;> (try simp [hx, hca]))
  | (refine zaf rfl ?_; simp [hx, hca])
  | (refine And.intro (by omega) ?_)
  | (refine CallP.f2 rfl (h1) (by first | simp [hx, hca] <;> rfl | fail) ?_; simp [hx, hca])
  | fail)
   (refine Pst.of ?_; simp)
   rw [zlL hb hx hp];omega
theorem zhI {p : Opr -> Bool} : ∀ (L : List Opr) (k : Int), (L.find? p = none -> zjy p L k = -1) /\ ∀ x, L.find? p = some x -> ∃ j : Nat, L[j]? = some x /\ zjy p L k = k + j
 | [], k => ⟨fun _ => rfl, fun x h => by simp at h⟩
 | a :: L, k => by
  by_cases h : p a = true
  ·refine ⟨fun h1 => by simp [h] at h1, fun x h1 => ?_⟩;rw [List.find?_cons, h] at h1;cases h1;exact ⟨0, rfl, by rw [zjy, if_pos h]; simp⟩
  ·have h' : p a = false := by simpa using h
   obtain ⟨h1, h2⟩ := zhI L (k + 1);refine ⟨fun h3 => ?_, fun x h3 => ?_⟩
   ·rw [List.find?_cons, h'] at h3;rw [zjy, if_neg h];exact h1 h3
   ·rw [List.find?_cons, h'] at h3;obtain ⟨j, h4, h5⟩ := h2 x h3;exact ⟨j + 1, h4, by rw [zjy, if_neg h, h5]; omega⟩
theorem znB (l : List Tok) (q : Nat) (hq : q < l.length) (hl : l.length <= 1000000) : Fun Tryz.prog 140 [.u (zoA oprs), .fnc (.func 142) [.u (.row [zrO l q] 0)]]
  (· = .u (.int .i64 (zjy (fun o => isB l q o.text) oprs 0))) :=
 znC oprs 142 [U.row [zrO l q] 0] (fun o => isB l q o.text) (fun o _ => zqT l q o hq hl) rfl (fun o => rfl)
end Go.Proofs.YtkdhmbhbbciedaaGreatDoor
namespace Go.Proofs.YtkdhmbhbbciedaaGreatDoor
open Go Go.VL
attribute [local simp] HS zaY zcB zbz evPure opd uOf zal St.put St.at getK binD binI binS binB nilD aggD zeS zfd lookD lookR zbE rangeS Go.VL.nextD Go.VL.nextS zbJ zfk zfe zeu zb7 mkV zaZ zcH zaL za1 mapEff zdw zek Key.kk shiftI arith unD convD zcP loadD cellsAt fieldAddrD fieldD indexAddrD indexSlD arrAddr indexD sliceD cutD lenD minmaxD nilCheckD buildD fillD zbn zcC zd1 setAll zcx zdZ zbD zeO zbC St.add zaj za6 rowsOf zcI zca zad zac zaa zaQ zcs zaG entry za2 za3 valD zbK zcq zeL zcD zcE zbp zbo zag zaB za0 delAll effD St.effS zb4 zaD zas zb5 zaE zau zbl zat zan zbm zb2 zaW zbj zaJ zbi zah mkD zbd za4 zbb zag zbN D.ids Op.operands Call.operands za5 makeIfD makeFuncD typeAssertD zfc zcL zcM zeY zbG IntKind.bits zbQ zam List.take_of_length_le List.range_succ zci zbx zcj zcd za7 zbq zbs zce zbu zaP zbt zbr zfJ zbw zcg zaH zav zch zaI zax zbv zaw zaq zcm zcn zfH zab frzN frz1 zaO zaN St.frz St.frzS frzS fv zbI zbV zcb zaM zay zao frz zcc zbH zbS zbT zaX St.norm St.lp St.only zaS wkE wkO wkU Ob.under D.under zai zap zck zby zcl h4s zdG zar zaV List.zipIdx_cons List.zipIdx_nil List.map_cons List.map_nil Nat.zero_add
attribute [local irreducible] V G H HD HD2 HD4 zgA RetX zaT Eff CallP CallV EndOK Fun Ret FinOK LoopI LoopW EndW HR vs2 RN Cnd H4
theorem zg3 (lets : List Let) (shs : List Bool) (m n : Nat) (e : Exp) (c : Code) (q nx : Nat) (hm : m < nx) (hq : q < nx) (hmq : m ≠ q) (hl : 2000 < c.length) : RetX Tryz.prog 36 [.ptr m 0, .u (.int .i64 n), zcF e] [(m, cOb lets shs q c), (q, kOb c)] nx
  fun r o n' => r = .val (.tup []) /\ o = [(m, cOb lets shs nx c), (nx, kOb c)] /\ n' = nx + 1 := by
 have hne := nef hm;have hne2 := nef hq;have hm1 : m < nx + 1 := by omega
 have hp := zbk c;simp only [zcF];refine RetX.runW Tryz.func36 Tryz.ntmps36 rfl (by simp) fun Γ hn hpan => ?_
 repeat' (first
  | (refine Cnd.of (fun hc => ?_) (fun hc => ?_) <;> (try (exfalso; omega)) <;> (try simp [hne, hne2, hmq, Ne.symm hmq, Nat.add_assoc, del, hl, cOb]))
  | (refine zaf rfl ?_; simp [hne, hne2, hmq, Ne.symm hmq, Nat.add_assoc, del, hl, cOb])
  | fail)
 refine EndW.wk { n := _, env := [], obs := [(m, cOb lets shs nx c), (nx, kOb c)], next := nx + 1 } (Wk.ren ((fun i => if i = nx then q else i)) rfl (by first | (simp [hn]; done) | (intro i hi; rw [hn] at hi; constructor <;> (try simp) <;> (try (intro _)) <;> omega)) (by simp [zfK, St.lp, zaS, zaa, getK, zac, zad, D.under, D.le, D.ren, hne, hne2, hmq, Ne.symm hmq, hm1, hp, cOb, kOb, zaz] <;> (try (intros; simp_all; done)) <;> (try omega)) (by simp [wkR, St.lp, zaa, getK, zac, zad, obR, leU, zbe, zaF, Ob.under, D.under, D.le, D.ren, hne, hne2, hmq, Ne.symm hmq, hm1, hp, cOb, kOb, zaz] <;> (try (intros; simp_all; done)) <;> (try omega)) (by simp [hne, hne2, hmq, Ne.symm hmq, hm1, hp, cOb, kOb, zaz])) ?_
 (refine EndW.h Tryz.results36 ?_; simp)
theorem zsw {lets shs m n e} (h0 : e.op = 0) : ExpX lets shs m n e (fun c => if 2000 < c.length then c else zb8 c ⟨0, e.n, []⟩) := by
 intro c q nx hm hq hmq hl;have hne := nef hm;have hne2 := nef hq;have hm1 : m < nx + 1 := by omega
 simp only;by_cases hg : 2000 < c.length
 ·rw [if_pos hg]; exact zg3 lets shs m n e c q nx hm hq hmq hg
 rw [if_neg hg];have hp := zbk (zb8 c ⟨0, e.n, []⟩);have a1 := zfO lets shs c ⟨0, e.n, []⟩ m q (nx + 1) (by omega) (by omega) hmq (by omega);generalize zb8 c ⟨0, e.n, []⟩ = c1 at *;simp only [zcF];refine RetX.runW Tryz.func36 Tryz.ntmps36 rfl (by simp) fun Γ hn hpan => ?_
 repeat' (first
  | (refine Cnd.of (fun hc => ?_) (fun hc => ?_) <;> (try (exfalso; omega)) <;> (try simp [hne, hne2, hmq, Ne.symm hmq, Nat.add_assoc, del, hg, h0, cOb]))
  | (refine zaf rfl ?_; simp [hne, hne2, hmq, Ne.symm hmq, Nat.add_assoc, del, hg, h0, cOb])
  | (refine CallP.okL (a1) (by first | (simp [hne, hne2, hmq, Ne.symm hmq, Nat.add_assoc, del, hg, h0, cOb, zaa, getK, zab, zac, zad, zah, del]; done) | fail) (by rfl) (by first | assumption | (simp; done) | fail) (by rfl) (by simp) ?_; (try simp [hne, hne2, hmq, Ne.symm hmq, Nat.add_assoc, del, hg, h0, cOb, zdt, del]))
  | fail)
 refine EndW.wk { n := _, env := [], obs := [(m, cOb lets shs nx c1), (nx, kOb c1)], next := nx + 1 } (Wk.ren ((fun i => if i = nx then nx + 1 else i)) rfl (by first | (simp [hn]; done) | (intro i hi; rw [hn] at hi; constructor <;> (try simp) <;> (try (intro _)) <;> omega)) (by simp [zfK, St.lp, zaS, zaa, getK, zac, zad, D.under, D.le, D.ren, hne, hne2, hmq, Ne.symm hmq, hm1, hp, cOb, kOb, zaz] <;> (try (intros; simp_all; done)) <;> (try omega)) (by simp [wkR, St.lp, zaa, getK, zac, zad, obR, leU, zbe, zaF, Ob.under, D.under, D.le, D.ren, hne, hne2, hmq, Ne.symm hmq, hm1, hp, cOb, kOb, zaz] <;> (try (intros; simp_all; done)) <;> (try omega)) (by simp [hne, hne2, hmq, Ne.symm hmq, hm1, hp, cOb, kOb, zaz])) ?_
 (refine EndW.h Tryz.results36 ?_; simp)
theorem zqS (lets : List Let) (shs : List Bool) (m n : Nat) (e : Exp) (h0 : e.op = 1) (hn' : n <= lets.length) (hn2 : n <= 1000) (hB : ∀ i l, i < n -> lets[i]? = some l -> ∃ F, ExpX lets shs m i l.body F /\ F = zfV (nmC lets (shF lets) i) (shF lets i) l.body) :
  ExpX lets shs m n e (fun c => if 2000 < c.length then c else nmC lets (shF lets) n e.s c) := by
 intro c q nx hm hq hmq hl;have hne := nef hm;have hne2 := nef hq;have hm1 : m < nx + 1 := by omega
 simp only;by_cases hg : 2000 < c.length
 ·rw [if_pos hg]; exact zg3 lets shs m n e c q nx hm hq hmq hg
 rw [if_neg hg];have hlet := zmP lets (zaA shs) (Vm.inss c) n e.s hn' hn2;have e1 := zez c;have e2 := zhD c;have e3 := zeG c;rw [zmp e.s hn'];cases hi : zfr lets n e.s with
 | none =>
  simp only;rw [hi] at hlet;have hp := zbk (zb8 c ⟨1, 0, e.s⟩);have a1 := zfO lets shs c ⟨1, 0, e.s⟩ m q (nx + 1) (by omega) (by omega) hmq (by omega);generalize zb8 c ⟨1, 0, e.s⟩ = c1 at *;simp only [ixO, zaA, zaz, Vm.inss] at hlet a1 ⊢;simp only [zcF];refine RetX.runW Tryz.func36 Tryz.ntmps36 rfl (by simp) fun Γ hn hpan => ?_
  repeat' (first
  | (refine Cnd.of (fun hc => ?_) (fun hc => ?_) <;> (try (exfalso; omega)) <;> (try simp [hne, hne2, hmq, Ne.symm hmq, Nat.add_assoc, del, hg, h0, cOb, kOb, zaA, zaz, e1, e2, e3]))
  | (refine zaf rfl ?_; simp [hne, hne2, hmq, Ne.symm hmq, Nat.add_assoc, del, hg, h0, cOb, kOb, zaA, zaz, e1, e2, e3])
  | (refine CallP.f2 rfl (hlet) (by first | simp [hne, hne2, hmq, Ne.symm hmq, Nat.add_assoc, del, hg, h0, cOb, kOb, zaA, zaz, e1, e2, e3] <;> rfl | fail) ?_; simp [hne, hne2, hmq, Ne.symm hmq, Nat.add_assoc, del, hg, h0, cOb, kOb, zaA, zaz, e1, e2, e3])
  | (refine CallP.okL (a1) (by first | (simp [hne, hne2, hmq, Ne.symm hmq, Nat.add_assoc, del, hg, h0, cOb, kOb, zaA, zaz, e1, e2, e3, zaa, getK, zab, zac, zad, zah, del]; done) | fail) (by rfl) (by first | assumption | (simp; done) | fail) (by rfl) (by simp) ?_; (try simp [hne, hne2, hmq, Ne.symm hmq, Nat.add_assoc, del, hg, h0, cOb, kOb, zaA, zaz, e1, e2, e3, zdt, del]))
  | fail)
  refine EndW.wk { n := _, env := [], obs := [(m, cOb lets shs nx c1), (nx, kOb c1)], next := nx + 1 } (Wk.ren ((fun i => if i = nx then nx + 1 else i)) rfl (by first | (simp [hn]; done) | (intro i hi; rw [hn] at hi; constructor <;> (try simp) <;> (try (intro _)) <;> omega)) (by simp [zfK, St.lp, zaS, zaa, getK, zac, zad, D.under, D.le, D.ren, hne, hne2, hmq, Ne.symm hmq, hm1, hp, cOb, kOb, zaz, zaA] <;> (try (intros; simp_all; done)) <;> (try omega)) (by simp [wkR, St.lp, zaa, getK, zac, zad, obR, leU, zbe, zaF, Ob.under, D.under, D.le, D.ren, hne, hne2, hmq, Ne.symm hmq, hm1, hp, cOb, kOb, zaz, zaA] <;> (try (intros; simp_all; done)) <;> (try omega)) (by simp [hne, hne2, hmq, Ne.symm hmq, hm1, hp, cOb, kOb, zaz, zaA])) ?_
  (refine EndW.h Tryz.results36 ?_; simp)
  all_goals simp [zaz, zaA]
 | some i =>
  obtain ⟨w1, l, w2, w3⟩ := zgl hi;obtain ⟨F, hF, hFe⟩ := hB i l w1 w2;simp only [w2];rw [<- hFe];rw [hi] at hlet;have hp := zbk (F c);have a1 := hF c q (nx + 1) (by omega) (by omega) hmq (by omega);generalize F c = c1 at *;have hi0 : ¬ (i : Int) < 0 := by omega
  have hil : i < lets.length := by omega
  simp only [ixO, zaA, zaz, Vm.inss] at hlet;simp only [zcF, zaz, zaA] at a1 ⊢;refine RetX.runW Tryz.func36 Tryz.ntmps36 rfl (by simp) fun Γ hn hpan => ?_
  repeat' (first
  | (refine Cnd.of (fun hc => ?_) (fun hc => ?_) <;> (try (exfalso; omega)) <;> (try simp [hne, hne2, hmq, Ne.symm hmq, Nat.add_assoc, del, hg, h0, cOb, kOb, zaA, zaz, e1, e2, e3, w2, hi0]))
  | (refine zaf rfl ?_; simp [hne, hne2, hmq, Ne.symm hmq, Nat.add_assoc, del, hg, h0, cOb, kOb, zaA, zaz, e1, e2, e3, w2, hi0])
  | (refine CallP.f2 rfl (hlet) (by first | simp [hne, hne2, hmq, Ne.symm hmq, Nat.add_assoc, del, hg, h0, cOb, kOb, zaA, zaz, e1, e2, e3, w2, hi0] <;> rfl | fail) ?_; simp [hne, hne2, hmq, Ne.symm hmq, Nat.add_assoc, del, hg, h0, cOb, kOb, zaA, zaz, e1, e2, e3, w2, hi0])
  | (refine CallP.okL (a1) (by first | (simp [hne, hne2, hmq, Ne.symm hmq, Nat.add_assoc, del, hg, h0, cOb, kOb, zaA, zaz, e1, e2, e3, w2, hi0, zaa, getK, zab, zac, zad, zah, del]; done) | fail) (by rfl) (by first | assumption | (simp; done) | fail) (by rfl) (by simp) ?_; (try simp [hne, hne2, hmq, Ne.symm hmq, Nat.add_assoc, del, hg, h0, cOb, kOb, zaA, zaz, e1, e2, e3, w2, hi0, zdt, del]))
  | fail)
  refine EndW.wk { n := _, env := [], obs := [(m, cOb lets shs nx c1), (nx, kOb c1)], next := nx + 1 } (Wk.ren ((fun i => if i = nx then nx + 1 else i)) rfl (by first | (simp [hn]; done) | (intro i hi; rw [hn] at hi; constructor <;> (try simp) <;> (try (intro _)) <;> omega)) (by simp [zfK, St.lp, zaS, zaa, getK, zac, zad, D.under, D.le, D.ren, hne, hne2, hmq, Ne.symm hmq, hm1, hp, cOb, kOb, zaz, zaA] <;> (try (intros; simp_all; done)) <;> (try omega)) (by simp [wkR, St.lp, zaa, getK, zac, zad, obR, leU, zbe, zaF, Ob.under, D.under, D.le, D.ren, hne, hne2, hmq, Ne.symm hmq, hm1, hp, cOb, kOb, zaz, zaA] <;> (try (intros; simp_all; done)) <;> (try omega)) (by simp [hne, hne2, hmq, Ne.symm hmq, hm1, hp, cOb, kOb, zaz, zaA])) ?_
  (refine EndW.h Tryz.results36 ?_; simp)
  all_goals simp [zaz, zaA]
theorem zgr {lets shs m n e F} (h0 : e.op = 10 \/ e.op = 11 \/ e.op = 13) (hF : zuh lets shs m n e F) : ExpX lets shs m n e (fun c => if 2000 < c.length then c else F c) := by
 intro c q nx hm hq hmq hl;have hne := nef hm;have hne2 := nef hq;have hm1 : m < nx + 1 := by omega
 simp only;by_cases hg : 2000 < c.length
 ·rw [if_pos hg]; exact zg3 lets shs m n e c q nx hm hq hmq hg
 rw [if_neg hg];have hp := zbk (F c);have a1 := hF c q (nx + 1) (by omega) (by omega) hmq (by omega);generalize F c = c1 at *;simp only [zcF] at a1 ⊢;rcases h0 with h0 | h0 | h0
 all_goals
  rw [h0] at a1;refine RetX.runW Tryz.func36 Tryz.ntmps36 rfl (by simp) fun Γ hn hpan => ?_
  repeat' (first
  | (refine Cnd.of (fun hc => ?_) (fun hc => ?_) <;> (try (exfalso; omega)) <;> (try simp [hne, hne2, hmq, Ne.symm hmq, Nat.add_assoc, del, hg, h0, cOb]))
  | (refine zaf rfl ?_; simp [hne, hne2, hmq, Ne.symm hmq, Nat.add_assoc, del, hg, h0, cOb])
  | (refine CallP.okL (a1) (by first | (simp [hne, hne2, hmq, Ne.symm hmq, Nat.add_assoc, del, hg, h0, cOb, zaa, getK, zab, zac, zad, zah, del]; done) | fail) (by rfl) (by first | assumption | (simp; done) | fail) (by rfl) (by simp) ?_; (try simp [hne, hne2, hmq, Ne.symm hmq, Nat.add_assoc, del, hg, h0, cOb, zdt, del]))
  | fail)
  refine EndW.wk { n := _, env := [], obs := [(m, cOb lets shs nx c1), (nx, kOb c1)], next := nx + 1 } (Wk.ren ((fun i => if i = nx then nx + 1 else i)) rfl (by first | (simp [hn]; done) | (intro i hi; rw [hn] at hi; constructor <;> (try simp) <;> (try (intro _)) <;> omega)) (by simp [zfK, St.lp, zaS, zaa, getK, zac, zad, D.under, D.le, D.ren, hne, hne2, hmq, Ne.symm hmq, hm1, hp, cOb, kOb, zaz] <;> (try (intros; simp_all; done)) <;> (try omega)) (by simp [wkR, St.lp, zaa, getK, zac, zad, obR, leU, zbe, zaF, Ob.under, D.under, D.le, D.ren, hne, hne2, hmq, Ne.symm hmq, hm1, hp, cOb, kOb, zaz] <;> (try (intros; simp_all; done)) <;> (try omega)) (by simp [hne, hne2, hmq, Ne.symm hmq, hm1, hp, cOb, kOb, zaz])) ?_
  (refine EndW.h Tryz.results36 ?_; simp)
theorem zkQ {nm sh} {x : Exp} : ∀ {l : List Exp} {i : Nat} (c : Code), l[i]? = some x -> zga nm sh (l.take (i + 1)) c = zfV nm sh x (zga nm sh (l.take i) c)
 | [], _, _, h => by simp at h
 | a :: l, 0, c, h => by simp at h; subst h; simp [zga]
 | a :: l, i + 1, c, h => by
  rw [List.take_succ_cons, List.take_succ_cons, zga, zga];exact zkQ (l := l) _ (by simpa using h)
theorem zpg (lets : List Let) (m n d : Nat) (e : Exp) (ho : 2 <= e.op /\ e.op <= 9 \/ e.op = 12) (hn' : n <= lets.length) (hn2 : n <= 1000) (hr : ∀ l ∈ lets, zba 12 l.body = true) (hll : lets.length <= 20) (he : zba (d + 1) e = true) (hd : d <= 11)
  (hE : ∀ x ∈ e.args, ExpX lets (zdj lets lets.length) m n x (zfV (nmC lets (shF lets) n) (shF lets n) x)) :
  ExpX lets (zdj lets lets.length) m n e (fun c => if 2000 < c.length then c else zb8 (zga (nmC lets (shF lets) n) (shF lets n) e.args c) ⟨zbY (shF lets n) e.op e.args, 0, []⟩) := by
 intro c q nx hm hq hmq hl;have hne := nef hm;have hne2 := nef hq;have hm1 : m < nx + 1 := by omega
 simp only;by_cases hg : 2000 < c.length
 ·rw [if_pos hg]; exact zg3 lets _ m n e c q nx hm hq hmq hg
 rw [if_neg hg];have hlen3 : e.args.length <= 3 := by
  have h1 := (zdT he).1;unfold zcu at h1
  repeat' split at h1
  all_goals omega
 have hpl := fun z => zow lets (zdj lets lets.length) z n hn' (by rw [zff (Nat.le_refl _)]; exact hn') hn2 d e he ho;rw [znh hr hll hn' (Nat.le_refl _) he hd (by omega) (by omega)] at hpl;have hcap : ∀ i, (zga (nmC lets (shF lets) n) (shF lets n) (e.args.take i) c).length <= 2001 := fun i => zjC (zhu n) _ c hl;have hall : zga (nmC lets (shF lets) n) (shF lets n) (e.args.take e.args.length) c = zga (nmC lets (shF lets) n) (shF lets n) e.args c := by rw [List.take_length]
 have hz : zga (nmC lets (shF lets) n) (shF lets n) (e.args.take 0) c = c := by rw [List.take_zero, zga]
 have hsn : ∀ i x, e.args[i]? = some x -> zga (nmC lets (shF lets) n) (shF lets n) (e.args.take (i + 1)) c = zfV (nmC lets (shF lets) n) (shF lets n) x (zga (nmC lets (shF lets) n) (shF lets n) (e.args.take i) c) := fun i x h => zkQ c h;rw [<- hall];generalize zbY (shF lets n) e.op e.args = po at *;generalize hCi : (fun i => zga (nmC lets (shF lets) n) (shF lets n) (e.args.take i) c) = Ci at *;have hCi' : ∀ i, zga (nmC lets (shF lets) n) (shF lets n) (e.args.take i) c = Ci i := fun i => by rw [<- hCi]
 simp only [hCi'] at hcap hsn hz ⊢;generalize zdj lets lets.length = shs at *;have hp := zbk (zb8 (Ci e.args.length) ⟨po, 0, []⟩);have hmb : m < nx + 1 + 1 := by omega
 have hop0 : ¬ e.op = 0 /\ ¬ e.op = 1 /\ ¬ e.op = 10 /\ ¬ e.op = 11 /\ ¬ e.op = 13 := by omega
 obtain ⟨o1, o2, o3, o4, o5⟩ := hop0;simp only [zcF, zaz, zaA] at hpl ⊢;refine RetX.runW Tryz.func36 Tryz.ntmps36 rfl (by simp) fun Γ hn hpan => ?_
 repeat' (first
  | (refine Cnd.of (fun hc => ?_) (fun hc => ?_) <;> (try (exfalso; omega)) <;> (try simp [hne, hne2, hmq, Ne.symm hmq, Nat.add_assoc, del, hg, cOb, o1, o2, o3, o4, o5]))
  | (refine zaf rfl ?_; simp [hne, hne2, hmq, Ne.symm hmq, Nat.add_assoc, del, hg, cOb, o1, o2, o3, o4, o5])
  | fail)
 refine zdg (α := { i : Nat // i <= e.args.length }) [0, 1, 5, 18, 19] (fun i => [(20, .u (.int .i64 i.1))])
  (fun i => [(nx, .box [.u (.int .i64 e.op), .u (.int .i64 e.n), .u (.int .i64 e.unit), .u (.str e.s), .u (.sl (e.args.map Exp.row))]), (m, cOb lets shs (nx + 1) (Ci i.1)), (nx + 1, kOb (Ci i.1))]) (nx + 2) (fun i => e.args.length - i.1) ⟨0, by omega⟩ ?_ ?_
 ·have hp0 := zbk (Ci 0);rw [hz] at hp0;simp only [hz];exact (Wk.ren ((fun i => if i = nx + 1 then q else i)) rfl (by first | (simp [hn]; done) | (intro i hi; rw [hn] at hi; constructor <;> (try simp) <;> (try (intro _)) <;> omega)) (by simp [zfK, St.lp, zaS, zaa, getK, zac, zad, D.under, D.le, D.ren, hne, hne2, hmq, Ne.symm hmq, hmb, hp0, cOb, kOb, zaz, zaA] <;> (try (intros; simp_all; done)) <;> (try omega)) (by simp [wkR, St.lp, zaa, getK, zac, zad, obR, leU, zbe, zaF, Ob.under, D.under, D.le, D.ren, hne, hne2, hmq, Ne.symm hmq, hmb, hp0, cOb, kOb, zaz, zaA] <;> (try (intros; simp_all; done)) <;> (try omega)) (by simp [hne, hne2, hmq, Ne.symm hmq, hmb, hp0, cOb, kOb, zaz, zaA]))
 rintro ⟨i, hi⟩;simp;by_cases hil : i < e.args.length
 ·have hx : e.args[i]? = some e.args[i] := List.getElem?_eq_getElem hil;have hmem := List.mem_of_getElem? hx;have hs1 := hsn i _ hx;have a1 := hE _ hmem (Ci i) (nx + 1) (nx + 3) (by omega) (by omega) (by omega) (hcap i);rw [<- hs1] at a1;have hp1 := zbk (Ci (i + 1));generalize e.args[i] = x at *;have hxr := x.row_eq;simp only [zcF] at a1
  repeat' (first
  | (refine Cnd.of (fun hc => ?_) (fun hc => ?_) <;> (try (exfalso; omega)) <;> (try simp [hne, hne2, hmq, Ne.symm hmq, Nat.add_assoc, del, cOb, hx, hxr]))
  | (refine zaf rfl ?_; simp [hne, hne2, hmq, Ne.symm hmq, Nat.add_assoc, del, cOb, hx, hxr])
  | (refine And.intro (by omega) ?_)
  | (refine CallP.okL (a1) (by first | (simp [hne, hne2, hmq, Ne.symm hmq, Nat.add_assoc, del, cOb, hx, hxr, zaa, getK, zab, zac, zad, zah, del]; done) | fail) (by rfl) (by first | assumption | (simp; done) | fail) (by rfl) (by simp) ?_; (try simp [hne, hne2, hmq, Ne.symm hmq, Nat.add_assoc, del, cOb, hx, hxr, zdt, del]))
  | fail)
  refine LoopW.next ⟨i + 1, by omega⟩ (by simp; omega) ?_
  exact (Wk.ren ((fun i => if i = nx + 1 then nx + 3 else i)) rfl (by first | (simp [hn]; done) | (intro i hi; rw [hn] at hi; constructor <;> (try simp) <;> (try (intro _)) <;> omega)) (by simp [zfK, St.lp, zaS, zaa, getK, zac, zad, D.under, D.le, D.ren, hne, hne2, hmq, Ne.symm hmq, hmb, hp1, cOb, kOb, zaz, zaA] <;> (try (intros; simp_all; done)) <;> (try omega)) (by simp [wkR, St.lp, zaa, getK, zac, zad, obR, leU, zbe, zaF, Ob.under, D.under, D.le, D.ren, hne, hne2, hmq, Ne.symm hmq, hmb, hp1, cOb, kOb, zaz, zaA] <;> (try (intros; simp_all; done)) <;> (try omega)) (by simp [hne, hne2, hmq, Ne.symm hmq, hmb, hp1, cOb, kOb, zaz, zaA]))
 obtain rfl : i = e.args.length := by omega
 have e1 := zez (Ci e.args.length);have e2 := zhD (Ci e.args.length);have e3 := zeG (Ci e.args.length);have h5 := hpl (Vm.inss (Ci e.args.length));have a2 := zfO lets shs (Ci e.args.length) ⟨po, 0, []⟩ m (nx + 1) (nx + 2) (by omega) (by omega) (by omega) (by have := hcap e.args.length; omega);generalize zb8 (Ci e.args.length) ⟨po, 0, []⟩ = c2 at *;generalize Ci e.args.length = c1 at *;simp only [Vm.inss, zaz, zaA] at h5 a2
 repeat' (first
  | (refine zaf rfl ?_; simp [hne, hne2, hmq, Ne.symm hmq, Nat.add_assoc, del, cOb, kOb, zaz, zaA, e1, e2, e3])
  | (refine CallP.f2 rfl (h5) (by first | simp [hne, hne2, hmq, Ne.symm hmq, Nat.add_assoc, del, cOb, kOb, zaz, zaA, e1, e2, e3] <;> rfl | fail) ?_; simp [hne, hne2, hmq, Ne.symm hmq, Nat.add_assoc, del, cOb, kOb, zaz, zaA, e1, e2, e3])
  | (refine CallP.okL (a2) (by first | (simp [hne, hne2, hmq, Ne.symm hmq, Nat.add_assoc, del, cOb, kOb, zaz, zaA, e1, e2, e3, zaa, getK, zab, zac, zad, zah, del]; done) | fail) (by rfl) (by first | assumption | (simp; done) | fail) (by rfl) (by simp) ?_; (try simp [hne, hne2, hmq, Ne.symm hmq, Nat.add_assoc, del, cOb, kOb, zaz, zaA, e1, e2, e3, zdt, del]))
  | fail)
 refine EndW.wk { n := _, env := [], obs := [(m, cOb lets shs nx c2), (nx, kOb c2)], next := nx + 1 } (Wk.ren ((fun i => if i = nx then nx + 2 else i)) rfl (by first | (simp [hn]; done) | (intro i hi; rw [hn] at hi; constructor <;> (try simp) <;> (try (intro _)) <;> omega)) (by simp [zfK, St.lp, zaS, zaa, getK, zac, zad, D.under, D.le, D.ren, hne, hne2, hmq, Ne.symm hmq, hm1, hp, cOb, kOb, zaz, zaA] <;> (try (intros; simp_all; done)) <;> (try omega)) (by simp [wkR, St.lp, zaa, getK, zac, zad, obR, leU, zbe, zaF, Ob.under, D.under, D.le, D.ren, hne, hne2, hmq, Ne.symm hmq, hm1, hp, cOb, kOb, zaz, zaA] <;> (try (intros; simp_all; done)) <;> (try omega)) (by simp [hne, hne2, hmq, Ne.symm hmq, hm1, hp, cOb, kOb, zaz, zaA])) ?_
 (refine EndW.h Tryz.results36 ?_; simp)
 all_goals simp [zaz, zaA]
theorem zko {l : List Tok} (hl : TokOK l) {f p : Nat} {t : Tok} (ht : l[p]? = some t) (hk : ¬ t.kind = 2) (h1 : isB l p [116, 114, 117, 101] = false) (h2 : isB l p [102, 97, 108, 115, 101] = false)
  (h3 : isB l p [109, 105, 110] = false) (h4 : isB l p [109, 97, 120] = false) (h5 : isB l p [40] = false) {i nx : Nat} (hi : i < nx) :
  RetX Tryz.prog 170 [.ptr i 0] [(i, pOb l p)] nx (PPost l i nx zpi (zbc l (f + 1) p)) := by
 have hne := zbg hi;have hp := (List.getElem?_eq_some_iff.1 ht).1;have hnx := zdm l p t ht hl.len;have hll := hl.len;rw [zbc, ht];have hh1 := fun nx' (h : nx <= nx') => zcp l p [116, 114, 117, 101] i nx' (by omega) hp hl.len;have hh2 := fun nx' (h : nx <= nx') => zcp l p [102, 97, 108, 115, 101] i nx' (by omega) hp hl.len;have hm1 := zgI l p [109, 105, 110] hp hl.len;have hm2 := zgI l p [109, 97, 120] hp hl.len;have hh3 := fun nx' (h : nx <= nx') => zcp l p [40] i nx' (by omega) hp hl.len;have hnm := zjr t.text;have hc1 := fun nx' (h : nx <= nx') => zg5 l p 12 i nx' (by omega);have hc2 := fun nx' (h : nx <= nx') => zf3 l p t 12 i nx' (by omega) ht hl.len;simp only [hk, h1, h2, h3, h4, h5, if_false, if_true, Bool.false_eq_true, or_self] at hh1 hh2 hm1 hm2 hh3 ⊢;by_cases hw : t.kind = 1
 ·cases hb : zgP t.text with
  | true =>
   simp only [hb, hw, and_self, if_true] at hnm ⊢;refine RetX.runW Tryz.func170 Tryz.ntmps170 rfl (by simp) fun Γ hn hpan => ?_
   repeat' (first
  | (refine zaf rfl ?_; simp [hne, hk, hw, del, Nat.add_assoc])
  | (refine And.intro (by omega) ?_)
  | ((first | refine CallP.f2 rfl (hnx) (by first | simp [hne, hk, hw, del, Nat.add_assoc] <;> rfl | fail) ?_ | refine CallP.f2 rfl (hm1) (by first | simp [hne, hk, hw, del, Nat.add_assoc] <;> rfl | fail) ?_ | refine CallP.f2 rfl (hm2) (by first | simp [hne, hk, hw, del, Nat.add_assoc] <;> rfl | fail) ?_ | refine CallP.f2 rfl (hnm) (by first | simp [hne, hk, hw, del, Nat.add_assoc] <;> rfl | fail) ?_ | fail); simp [hne, hk, hw, del, Nat.add_assoc])
  | (refine CallP.ok1 (hh1 _ (by first | omega | (simp; done) | (simp; omega) | fail)) (by first | (simp [hne, hk, hw, del, Nat.add_assoc, zaa, getK, zab, zac]; done) | fail) (by rfl) (by first | assumption | (simp; done) | fail) (by rfl) (by simp) ?_; (try simp [hne, hk, hw, del, Nat.add_assoc]))
  | (refine CallP.ok1 (hh2 _ (by first | omega | (simp; done) | (simp; omega) | fail)) (by first | (simp [hne, hk, hw, del, Nat.add_assoc, zaa, getK, zab, zac]; done) | fail) (by rfl) (by first | assumption | (simp; done) | fail) (by rfl) (by simp) ?_; (try simp [hne, hk, hw, del, Nat.add_assoc]))
  | (refine CallP.ok1 (hh3 _ (by first | omega | (simp; done) | (simp; omega) | fail)) (by first | (simp [hne, hk, hw, del, Nat.add_assoc, zaa, getK, zab, zac]; done) | fail) (by rfl) (by first | assumption | (simp; done) | fail) (by rfl) (by simp) ?_; (try simp [hne, hk, hw, del, Nat.add_assoc]))
  | (refine CallP.ok1 (hc1 _ (by first | omega | (simp; done) | (simp; omega) | fail)) (by first | (simp [hne, hk, hw, del, Nat.add_assoc, zaa, getK, zab, zac]; done) | fail) (by rfl) (by first | assumption | (simp; done) | fail) (by rfl) (by simp) ?_; (try simp [hne, hk, hw, del, Nat.add_assoc]))
  | fail)
   refine EndW.norm ?_;simp [St.norm, zaX, zbH, zbS, zbT, hne]
   (refine EndW.z ([(i, pOb l (p + 1))]) (N := nx) Tryz.results170 (by simp [hne, hi] <;> omega) ?_; simp [hne, hi])
   exact PPost.zeA rfl (by simp [Exp.row]) rfl
  | false =>
   simp only [hb, hw, Bool.false_eq_true, and_false, if_false] at hnm ⊢;refine RetX.runW Tryz.func170 Tryz.ntmps170 rfl (by simp) fun Γ hn hpan => ?_
   repeat' (first
  | (refine zaf rfl ?_; simp [hne, hk, hw, del, Nat.add_assoc])
  | ((first | refine CallP.f2 rfl (hnx) (by first | simp [hne, hk, hw, del, Nat.add_assoc] <;> rfl | fail) ?_ | refine CallP.f2 rfl (hm1) (by first | simp [hne, hk, hw, del, Nat.add_assoc] <;> rfl | fail) ?_ | refine CallP.f2 rfl (hm2) (by first | simp [hne, hk, hw, del, Nat.add_assoc] <;> rfl | fail) ?_ | refine CallP.f2 rfl (hnm) (by first | simp [hne, hk, hw, del, Nat.add_assoc] <;> rfl | fail) ?_ | fail); simp [hne, hk, hw, del, Nat.add_assoc])
  | (refine CallP.ok1 (hh1 _ (by first | omega | (simp; done) | (simp; omega) | fail)) (by first | (simp [hne, hk, hw, del, Nat.add_assoc, zaa, getK, zab, zac]; done) | fail) (by rfl) (by first | assumption | (simp; done) | fail) (by rfl) (by simp) ?_; (try simp [hne, hk, hw, del, Nat.add_assoc]))
  | (refine CallP.ok1 (hh2 _ (by first | omega | (simp; done) | (simp; omega) | fail)) (by first | (simp [hne, hk, hw, del, Nat.add_assoc, zaa, getK, zab, zac]; done) | fail) (by rfl) (by first | assumption | (simp; done) | fail) (by rfl) (by simp) ?_; (try simp [hne, hk, hw, del, Nat.add_assoc]))
  | (refine CallP.ok1 (hh3 _ (by first | omega | (simp; done) | (simp; omega) | fail)) (by first | (simp [hne, hk, hw, del, Nat.add_assoc, zaa, getK, zab, zac]; done) | fail) (by rfl) (by first | assumption | (simp; done) | fail) (by rfl) (by simp) ?_; (try simp [hne, hk, hw, del, Nat.add_assoc]))
  | (refine CallP.zg8 (hc2 _ (by first | omega | (simp; done) | (simp; omega) | fail)) (by first | (simp [hne, hk, hw, del, Nat.add_assoc, zaa, getK, zab, zac]; done) | fail) (by rfl) (by first | assumption | (simp; done) | fail) (by rfl) (by simp) ?_; rintro ob' ⟨q', rfl⟩; refine ⟨_, Wk.refl _, ?_⟩)
  | fail)
   (refine hpan _ _ (PanG.k ([(i, pOb l q')]) (nx) (by simp [hn, hi, hne, zab, zac, zaa, getK] <;> omega) ?_); try simp)
   exact PPost.zb1 rfl
 ·simp only [hw, false_and, if_false];refine RetX.runW Tryz.func170 Tryz.ntmps170 rfl (by simp) fun Γ hn hpan => ?_
  repeat' (first
  | (refine zaf rfl ?_; simp [hne, hk, hw, del, Nat.add_assoc])
  | ((first | refine CallP.f2 rfl (hnx) (by first | simp [hne, hk, hw, del, Nat.add_assoc] <;> rfl | fail) ?_ | refine CallP.f2 rfl (hm1) (by first | simp [hne, hk, hw, del, Nat.add_assoc] <;> rfl | fail) ?_ | refine CallP.f2 rfl (hm2) (by first | simp [hne, hk, hw, del, Nat.add_assoc] <;> rfl | fail) ?_ | refine CallP.f2 rfl (hnm) (by first | simp [hne, hk, hw, del, Nat.add_assoc] <;> rfl | fail) ?_ | fail); simp [hne, hk, hw, del, Nat.add_assoc])
  | (refine CallP.ok1 (hh1 _ (by first | omega | (simp; done) | (simp; omega) | fail)) (by first | (simp [hne, hk, hw, del, Nat.add_assoc, zaa, getK, zab, zac]; done) | fail) (by rfl) (by first | assumption | (simp; done) | fail) (by rfl) (by simp) ?_; (try simp [hne, hk, hw, del, Nat.add_assoc]))
  | (refine CallP.ok1 (hh2 _ (by first | omega | (simp; done) | (simp; omega) | fail)) (by first | (simp [hne, hk, hw, del, Nat.add_assoc, zaa, getK, zab, zac]; done) | fail) (by rfl) (by first | assumption | (simp; done) | fail) (by rfl) (by simp) ?_; (try simp [hne, hk, hw, del, Nat.add_assoc]))
  | (refine CallP.ok1 (hh3 _ (by first | omega | (simp; done) | (simp; omega) | fail)) (by first | (simp [hne, hk, hw, del, Nat.add_assoc, zaa, getK, zab, zac]; done) | fail) (by rfl) (by first | assumption | (simp; done) | fail) (by rfl) (by simp) ?_; (try simp [hne, hk, hw, del, Nat.add_assoc]))
  | (refine CallP.zg8 (hc2 _ (by first | omega | (simp; done) | (simp; omega) | fail)) (by first | (simp [hne, hk, hw, del, Nat.add_assoc, zaa, getK, zab, zac]; done) | fail) (by rfl) (by first | assumption | (simp; done) | fail) (by rfl) (by simp) ?_; rintro ob' ⟨q', rfl⟩; refine ⟨_, Wk.refl _, ?_⟩)
  | fail)
  (refine hpan _ _ (PanG.k ([(i, pOb l q')]) (nx) (by simp [hn, hi, hne, zab, zac, zaa, getK] <;> omega) ?_); try simp)
  exact PPost.zb1 rfl
theorem zmy {l : List Tok} {p : Nat} {w : List UInt8} {t : Tok} (ht : l[p]? = some t) (h : isB l p w = true) : t.text = w := by
 unfold isB at h;rw [ht] at h;simp only [Bool.and_eq_true, decide_eq_true_eq] at h;exact h.2
theorem zkn {l : List Tok} (hl : TokOK l) {f : Nat} (hE : zgS l f) : zi9 l (f + 1) := by
 intro p i nx hi hp hf;obtain ⟨t, ht⟩ : ∃ t, l[p]? = some t := ⟨_, List.getElem?_eq_getElem hp⟩;by_cases hk : t.kind = 2
 ·exact zlu hl ht hk hi
 cases h1 : isB l p [116, 114, 117, 101] with
 | true => exact zkm hl ht hk h1 hi
 | false =>
 cases h2 : isB l p [102, 97, 108, 115, 101] with
 | true => exact zjk hl ht hk h1 h2 hi
 | false =>
 cases h3 : isB l p [109, 105, 110] with
 | true =>
  cases h4 : isB l p [109, 97, 120] with
  | true => exact absurd ((zmy ht h3).symm.trans (zmy ht h4)) (by decide)
  | false => exact zlv hl hE (by omega) ht hk h1 h2 h3 h4 hi
 | false =>
 cases h4 : isB l p [109, 97, 120] with
 | true => exact zlw hl hE (by omega) ht hk h1 h2 h3 h4 hi
 | false =>
 cases h5 : isB l p [40] with
 | true => exact zjj hl hE (by omega) ht hk h1 h2 h3 h4 h5 hi
 | false => exact zko hl ht hk h1 h2 h3 h4 h5 hi
theorem ztA {l : List Tok} {F : FuncId} {r : PR (Exp × Int)} {e : Exp × Int} {q i nx : Nat} {ds : List D} {obs : List (Nat × Ob)} (h : RetX Tryz.prog F ds obs nx (PPost l i nx zkx r)) (hr : r = .ok e q) :
  RetX Tryz.prog F ds obs nx fun r o n => r = .val (.tup [.u (.agg [.int .i64 e.1.op, .int .i64 e.1.n, .int .i64 e.1.unit, .str e.1.s, .sl (e.1.args.map Exp.row)]), .u (.int .i64 e.2)]) /\ o = [(i, pOb l q)] /\ n = nx := by
 subst hr;rw [<- Exp.row_eq];exact h
abbrev zuD (e : Exp) : Ob := .box [.u (.int .i64 e.op), .u (.int .i64 e.n), .u (.int .i64 e.unit), .u (.str e.s), .u (.sl (e.args.map Exp.row))]
theorem zqR {l : List Tok} (hl : TokOK l) {f : Nat} (hE : ∀ g, g < f -> zgS l g) (hP : zs9 l f) : zgS l (f + 1) := by
 intro p form i nx hi hp hf hm0 hm7;have hne := zbg hi;have hll := hl.len;rw [ze9];have ha := fun nx' (h : nx <= nx') => hP p form i nx' (by omega) hp (by omega) hm0 hm7;have hop := zjo;cases hr0 : zbX l f p form with
 | stop pos e =>
  simp only [hr0] at ha;refine RetX.runW Tryz.func106 Tryz.ntmps106 rfl (by simp) fun Γ hn hpan => ?_
  repeat' (first
  | (refine zaf rfl ?_; simp [hne, del, Nat.add_assoc])
  | (refine CallP.zg8 (ha _ (by first | omega | (simp; done) | (simp; omega) | fail)) (by first | (simp [hne, del, Nat.add_assoc, zaa, getK, zab, zac]; done) | fail) (by rfl) (by first | assumption | (simp; done) | fail) (by rfl) (by simp) ?_; rintro ob' ⟨q', rfl⟩; refine ⟨_, Wk.refl _, ?_⟩)
  | fail)
  (refine hpan _ _ (PanG.k ([(i, pOb l q')]) (nx) (by simp [hn, hi, hne, zab, zac, zaa, getK] <;> omega) ?_); try simp)
  exact PPost.zb1 (by simp [PR.bind, *])
 | ok v0 q0 =>
  have ha := fun nx' h => ztA (ha nx' h) hr0;obtain ⟨g0a, g0b⟩ := (zdn hl f).2.2.1 _ _ _ _ hr0 hp;generalize hR : (PR.ok v0 q0).bind (fun e q => zfq l f form e.1 e.2 q) = R;have hR' : R = zfq l f form v0.1 v0.2 q0 := hR.symm;refine RetX.runW Tryz.func106 Tryz.ntmps106 rfl (by simp) fun Γ hn hpan => ?_
  repeat' (first
  | (refine zaf rfl ?_; simp [hne, del, Nat.add_assoc])
  | (refine CallP.ok1 (ha _ (by first | omega | (simp; done) | (simp; omega) | fail)) (by first | (simp [hne, del, Nat.add_assoc, zaa, getK, zab, zac]; done) | fail) (by rfl) (by first | assumption | (simp; done) | fail) (by rfl) (by simp) ?_; (try simp [hne, del, Nat.add_assoc]))
  | fail)
  refine zdg (α := { x : Exp × Int × Nat × Nat // x.2.2.1 < l.length /\ 4 * (l.length - x.2.2.1) + 2 <= x.2.2.2 /\ x.2.2.2 <= f /\ R = zfq l x.2.2.2 form x.1 x.2.1 x.2.2.1 }) [0, 1, 2, 4, 5] (fun x => [(6, .u (.int .i64 x.1.2.1))])
   (fun x => [(nx + 2, zuD x.1.1), (nx + 1, .box [.u (.int .i64 0), .u (.int .i64 0), .u (.int .i64 0), .u (.str []), .u .nil]), (nx, .box [.ptr i 0]), (i, pOb l x.1.2.2.1)]) (nx + 3) (fun x => x.1.2.2.2) ⟨(v0.1, v0.2, q0, f), g0b, (by show 4 * (l.length - q0) + 2 <= f; omega), (by show f <= f; omega), hR'⟩ ?_ ?_
  ·have hi3 : i < nx + 3 := by omega
   exact (Wk.zeX (by simp [hn, hi, hi3, hne] <;> grind))
  rintro ⟨⟨e, own, q, g⟩, h1, h2, h2b, h3⟩;simp only at h1 h2 h2b h3;simp;obtain ⟨g, rfl⟩ : ∃ g', g = g' + 1 := ⟨g - 1, by omega⟩;rw [zfq] at h3;have hix := znB l q h1 hl.len;cases hx : ztC l q with
  | none =>
   rw [(zhI oprs 0).1 hx] at hix;rw [hx] at h3
   repeat' (first
  | (refine zaf rfl ?_; simp [hne, del, Nat.add_assoc])
  | ((first | refine CallP.f2 rfl (hop) (by first | simp [hne, del, Nat.add_assoc] <;> rfl | fail) ?_ | refine CallP.f2 rfl (hix) (by first | simp [hne, del, Nat.add_assoc] <;> rfl | fail) ?_ | fail); simp [hne, del, Nat.add_assoc])
  | fail)
   refine EndW.norm ?_;simp [St.norm, zaX, zbH, zbS, zbT, hne, Nat.add_assoc]
   (refine EndW.z ([(i, pOb l q)]) (N := nx) Tryz.results106 (by simp [hne, hi] <;> omega) ?_; simp [hne, hi])
   exact PPost.zeA h3 (by simp [Exp.row_eq]) rfl
  | some x =>
   obtain ⟨k, hk1, hk2⟩ := (zhI oprs 0).2 x hx;rw [hk2] at hix;rw [hx] at h3;simp only at h3;have hqb := zcA hl (by have := List.find?_some (p := fun o : Opr => isB l q o.text) hx; exact this);have hk0 : ¬ ((k : Int) < 0) := by omega
   have hkl : k < 8 := (List.getElem?_eq_some_iff.1 hk1).1;rw [show (0 : Int) + k = (k : Int) by omega] at hix;have hfm : 0 <= x.form /\ x.form <= 6 := by
    have := List.mem_of_getElem? hk1;simp only [oprs, List.mem_cons, List.not_mem_nil, or_false] at this;rcases this with rfl | rfl | rfl | rfl | rfl | rfl | rfl | rfl <;> decide
   obtain ⟨hf0, hf6⟩ := hfm;generalize hL : oprs = L at hop hix hk1;by_cases c1 : x.form < form
   ·rw [if_pos (Or.inl c1)] at h3
    repeat' (first
  | (refine zaf rfl ?_; simp [hne, del, Nat.add_assoc, hk0, hk1, c1])
  | ((first | refine CallP.f2 rfl (hop) (by first | simp [hne, del, Nat.add_assoc, hk0, hk1, c1] <;> rfl | fail) ?_ | refine CallP.f2 rfl (hix) (by first | simp [hne, del, Nat.add_assoc, hk0, hk1, c1] <;> rfl | fail) ?_ | fail); simp [hne, del, Nat.add_assoc, hk0, hk1, c1])
  | fail)
    refine EndW.norm ?_;simp [St.norm, zaX, zbH, zbS, zbT, hne, Nat.add_assoc]
    (refine EndW.z ([(i, pOb l q)]) (N := nx) Tryz.results106 (by simp [hne, hi] <;> omega) ?_; simp [hne, hi])
    exact PPost.zeA h3 (by simp [Exp.row_eq]) rfl
   ·by_cases c2 : own < x.form
    ·rw [if_pos (Or.inr (Or.inl c2))] at h3
     repeat' (first
  | (refine zaf rfl ?_; simp [hne, del, Nat.add_assoc, hk0, hk1, c1, c2])
  | ((first | refine CallP.f2 rfl (hop) (by first | simp [hne, del, Nat.add_assoc, hk0, hk1, c1, c2] <;> rfl | fail) ?_ | refine CallP.f2 rfl (hix) (by first | simp [hne, del, Nat.add_assoc, hk0, hk1, c1, c2] <;> rfl | fail) ?_ | fail); simp [hne, del, Nat.add_assoc, hk0, hk1, c1, c2])
  | fail)
     refine EndW.norm ?_;simp [St.norm, zaX, zbH, zbS, zbT, hne, Nat.add_assoc]
     (refine EndW.z ([(i, pOb l q)]) (N := nx) Tryz.results106 (by simp [hne, hi] <;> omega) ?_; simp [hne, hi])
     exact PPost.zeA h3 (by simp [Exp.row_eq]) rfl
    ·by_cases c3 : own = 4 /\ x.form = 4
     ·rw [if_pos (Or.inr (Or.inr c3))] at h3;obtain ⟨c4, c5⟩ := c3
      repeat' (first
  | (refine Cnd.of (fun hc => ?_) (fun hc => ?_) <;> (try (exfalso; omega)) <;> (try simp [hne, del, Nat.add_assoc, hk0, hk1, c1, c2, c4, c5]))
  | (refine zaf rfl ?_; simp [hne, del, Nat.add_assoc, hk0, hk1, c1, c2, c4, c5])
  | ((first | refine CallP.f2 rfl (hop) (by first | simp [hne, del, Nat.add_assoc, hk0, hk1, c1, c2, c4, c5] <;> rfl | fail) ?_ | refine CallP.f2 rfl (hix) (by first | simp [hne, del, Nat.add_assoc, hk0, hk1, c1, c2, c4, c5] <;> rfl | fail) ?_ | fail); simp [hne, del, Nat.add_assoc, hk0, hk1, c1, c2, c4, c5])
  | fail)
      refine EndW.norm ?_;simp [St.norm, zaX, zbH, zbS, zbT, hne, Nat.add_assoc]
      (refine EndW.z ([(i, pOb l q)]) (N := nx) Tryz.results106 (by simp [hne, hi] <;> omega) ?_; simp [hne, hi])
      exact PPost.zeA h3 (by simp [Exp.row_eq]) rfl
     ·rw [if_neg (by rintro (h | h | h) <;> contradiction)] at h3;have hb := fun nx' (h : nx <= nx') => hE g (by omega) (q + 1) (x.form + 1) i nx' (by omega) hqb (by omega) (by omega) (by omega);cases hr1 : ze9 l g (q + 1) (x.form + 1) with
      | stop pos err =>
       simp only [hr1] at hb;rw [hr1] at h3;by_cases c4 : own = 4
       ·have c5 : ¬ x.form = 4 := fun h => c3 ⟨c4, h⟩
        repeat' (first
  | (refine zg6 (fun nx' h' => hb nx' (by simp at h'; omega)) (by first | (simp [hne, del, Nat.add_assoc, hk0, hk1, c1, c2, c4, c5, zaa, getK, zab, zac, zad, zah]; done) | fail) (by rfl) (by first | assumption | simp) (by rfl) (by simp) ?_ ?_; rintro env' ob' n' hn' ⟨q', rfl⟩; refine ⟨_, Wk.refl _, ?_⟩)
  | (refine zf9 rfl (by simp) ?_; simp)
  | (refine Cnd.of (fun hc => ?_) (fun hc => ?_) <;> (try (exfalso; omega)) <;> (try simp [hne, del, Nat.add_assoc, hk0, hk1, c1, c2, c4, c5]))
  | (refine zaf rfl ?_; simp [hne, del, Nat.add_assoc, hk0, hk1, c1, c2, c4, c5])
  | (refine And.intro (by omega) ?_)
  | (refine zg7 (hC _ (zdo [i] nx (by simp <;> omega) (by simp <;> omega) (by apply Exists.intro; apply And.intro; (focus (repeat' (first | exact KF.nil | exact KL.nil | apply KF.cons | apply KL.cons 0 rfl | apply KL.cons 1 rfl | apply KL.cons 2 rfl | apply KL.cons 3 rfl | apply KL.cons 4 rfl | apply KL.cons 5 rfl | apply KL.cons 6 rfl | apply KL.cons 7 rfl | apply KL.cons 8 rfl | apply KL.cons 9 rfl))); kernel_rfl))) rfl; done)
  | (refine zeW rfl (by kernel_rfl) (by first | (simp [hn]; done) | (simp [hn]; omega) | fail) fun C k hC hk => ?_; simp [hne, del, Nat.add_assoc, hk0, hk1, c1, c2, c4, c5])
  | ((first | refine CallP.f2 rfl (hop) (by first | simp [hne, del, Nat.add_assoc, hk0, hk1, c1, c2, c4, c5] <;> rfl | fail) ?_ | refine CallP.f2 rfl (hix) (by first | simp [hne, del, Nat.add_assoc, hk0, hk1, c1, c2, c4, c5] <;> rfl | fail) ?_ | fail); simp [hne, del, Nat.add_assoc, hk0, hk1, c1, c2, c4, c5])
  | fail)
        (refine hpan _ _ (PanG.k ([(i, pOb l q')]) (nx) (by simp [hn, hi, hne, zab, zac, zaa, getK] <;> omega) ?_); try simp)
        exact PPost.zb1 h3
       ·repeat' (first
  | (refine zg6 (fun nx' h' => hb nx' (by simp at h'; omega)) (by first | (simp [hne, del, Nat.add_assoc, hk0, hk1, c1, c2, c4, zaa, getK, zab, zac, zad, zah]; done) | fail) (by rfl) (by first | assumption | simp) (by rfl) (by simp) ?_ ?_; rintro env' ob' n' hn' ⟨q', rfl⟩; refine ⟨_, Wk.refl _, ?_⟩)
  | (refine zf9 rfl (by simp) ?_; simp)
  | (refine zaf rfl ?_; simp [hne, del, Nat.add_assoc, hk0, hk1, c1, c2, c4])
  | (refine And.intro (by omega) ?_)
  | (refine zg7 (hC _ (zdo [i] nx (by simp <;> omega) (by simp <;> omega) (by apply Exists.intro; apply And.intro; (focus (repeat' (first | exact KF.nil | exact KL.nil | apply KF.cons | apply KL.cons 0 rfl | apply KL.cons 1 rfl | apply KL.cons 2 rfl | apply KL.cons 3 rfl | apply KL.cons 4 rfl | apply KL.cons 5 rfl | apply KL.cons 6 rfl | apply KL.cons 7 rfl | apply KL.cons 8 rfl | apply KL.cons 9 rfl))); kernel_rfl))) rfl; done)
  | (refine zeW rfl (by kernel_rfl) (by first | (simp [hn]; done) | (simp [hn]; omega) | fail) fun C k hC hk => ?_; simp [hne, del, Nat.add_assoc, hk0, hk1, c1, c2, c4])
  | ((first | refine CallP.f2 rfl (hop) (by first | simp [hne, del, Nat.add_assoc, hk0, hk1, c1, c2, c4] <;> rfl | fail) ?_ | refine CallP.f2 rfl (hix) (by first | simp [hne, del, Nat.add_assoc, hk0, hk1, c1, c2, c4] <;> rfl | fail) ?_ | fail); simp [hne, del, Nat.add_assoc, hk0, hk1, c1, c2, c4])
  | fail)
        (refine hpan _ _ (PanG.k ([(i, pOb l q')]) (nx) (by simp [hn, hi, hne, zab, zac, zaa, getK] <;> omega) ?_); try simp)
        exact PPost.zb1 h3
      | ok e2 q2 =>
       have hb := fun nx' h => zev (hb nx' h) hr1;obtain ⟨g1a, g1b⟩ := (zdn hl g).1 _ _ _ _ hr1 hqb;rw [hr1] at h3;by_cases c4 : own = 4
       ·have c5 : ¬ x.form = 4 := fun h => c3 ⟨c4, h⟩
        repeat' (first
  | (refine zjZ (fun nx' h' => hb nx' (by simp at h'; omega)) (by first | (simp [hne, del, Nat.add_assoc, hk0, hk1, c1, c2, c4, c5, zaa, getK, zab, zac, zad, zah]; done) | fail) (by rfl) (by first | assumption | simp) (by rfl) (by simp [D.under, Ob.under]) (by simp) ?_; (try simp [hne, del, Nat.add_assoc, hk0, hk1, c1, c2, c4, c5]))
  | (refine Cnd.of (fun hc => ?_) (fun hc => ?_) <;> (try (exfalso; omega)) <;> (try simp [hne, del, Nat.add_assoc, hk0, hk1, c1, c2, c4, c5]))
  | (refine zaf rfl ?_; simp [hne, del, Nat.add_assoc, hk0, hk1, c1, c2, c4, c5])
  | (refine And.intro (by omega) ?_)
  | (refine ⟨hC _ (zdo [i] nx (by simp <;> omega) (by simp <;> omega) (by apply Exists.intro; apply And.intro; (focus (repeat' (first | exact KF.nil | exact KL.nil | apply KF.cons | apply KL.cons 0 rfl | apply KL.cons 1 rfl | apply KL.cons 2 rfl | apply KL.cons 3 rfl | apply KL.cons 4 rfl | apply KL.cons 5 rfl | apply KL.cons 6 rfl | apply KL.cons 7 rfl | apply KL.cons 8 rfl | apply KL.cons 9 rfl))); kernel_rfl)), hk _ (zel 8 _ _ _ ?_)⟩; clear hC hk C k; simp [hne, del, Nat.add_assoc, hk0, hk1, c1, c2, c4, c5])
  | (refine zeW rfl (by kernel_rfl) (by first | (simp [hn]; done) | (simp [hn]; omega) | fail) fun C k hC hk => ?_; simp [hne, del, Nat.add_assoc, hk0, hk1, c1, c2, c4, c5])
  | (refine zc7 rfl ?_; simp [hne, del, Nat.add_assoc, hk0, hk1, c1, c2, c4, c5])
  | ((first | refine CallP.f2 rfl (hop) (by first | simp [hne, del, Nat.add_assoc, hk0, hk1, c1, c2, c4, c5] <;> rfl | fail) ?_ | refine CallP.f2 rfl (hix) (by first | simp [hne, del, Nat.add_assoc, hk0, hk1, c1, c2, c4, c5] <;> rfl | fail) ?_ | fail); simp [hne, del, Nat.add_assoc, hk0, hk1, c1, c2, c4, c5])
  | fail)
        have hi3 : i < nx + 3 := by omega
        refine LoopW.next ⟨(.mk x.op 0 0 [] [e, e2], x.form, q2, g), g1b, (by show 4 * (l.length - q2) + 2 <= g; omega), (by show g <= f; omega), h3⟩ (by show g < g + 1; omega) ?_
        refine Wk.trans (Wk.frzN 1 _) ?_;simp [hne, Nat.add_assoc, frzN, frz1, zaO, zaN, St.frz, St.frzS, frzS, fv, zbI, zbV, zcb, zaM, zay, zao, del, frz, zcc];exact (Wk.zeX (by simp [hn, hi, hi3, hne, Exp.row_eq, Exp.op, Exp.n, Exp.unit, Exp.s, Exp.args] <;> grind))
       ·repeat' (first
  | (refine zjZ (fun nx' h' => hb nx' (by simp at h'; omega)) (by first | (simp [hne, del, Nat.add_assoc, hk0, hk1, c1, c2, c4, zaa, getK, zab, zac, zad, zah]; done) | fail) (by rfl) (by first | assumption | simp) (by rfl) (by simp [D.under, Ob.under]) (by simp) ?_; (try simp [hne, del, Nat.add_assoc, hk0, hk1, c1, c2, c4]))
  | (refine zaf rfl ?_; simp [hne, del, Nat.add_assoc, hk0, hk1, c1, c2, c4])
  | (refine And.intro (by omega) ?_)
  | (refine ⟨hC _ (zdo [i] nx (by simp <;> omega) (by simp <;> omega) (by apply Exists.intro; apply And.intro; (focus (repeat' (first | exact KF.nil | exact KL.nil | apply KF.cons | apply KL.cons 0 rfl | apply KL.cons 1 rfl | apply KL.cons 2 rfl | apply KL.cons 3 rfl | apply KL.cons 4 rfl | apply KL.cons 5 rfl | apply KL.cons 6 rfl | apply KL.cons 7 rfl | apply KL.cons 8 rfl | apply KL.cons 9 rfl))); kernel_rfl)), hk _ (zel 8 _ _ _ ?_)⟩; clear hC hk C k; simp [hne, del, Nat.add_assoc, hk0, hk1, c1, c2, c4])
  | (refine zeW rfl (by kernel_rfl) (by first | (simp [hn]; done) | (simp [hn]; omega) | fail) fun C k hC hk => ?_; simp [hne, del, Nat.add_assoc, hk0, hk1, c1, c2, c4])
  | (refine zc7 rfl ?_; simp [hne, del, Nat.add_assoc, hk0, hk1, c1, c2, c4])
  | ((first | refine CallP.f2 rfl (hop) (by first | simp [hne, del, Nat.add_assoc, hk0, hk1, c1, c2, c4] <;> rfl | fail) ?_ | refine CallP.f2 rfl (hix) (by first | simp [hne, del, Nat.add_assoc, hk0, hk1, c1, c2, c4] <;> rfl | fail) ?_ | fail); simp [hne, del, Nat.add_assoc, hk0, hk1, c1, c2, c4])
  | fail)
        have hi3 : i < nx + 3 := by omega
        refine LoopW.next ⟨(.mk x.op 0 0 [] [e, e2], x.form, q2, g), g1b, (by show 4 * (l.length - q2) + 2 <= g; omega), (by show g <= f; omega), h3⟩ (by show g < g + 1; omega) ?_
        refine Wk.trans (Wk.frzN 1 _) ?_;simp [hne, Nat.add_assoc, frzN, frz1, zaO, zaN, St.frz, St.frzS, frzS, fv, zbI, zbV, zcb, zaM, zay, zao, del, frz, zcc];exact (Wk.zeX (by simp [hn, hi, hi3, hne, Exp.row_eq, Exp.op, Exp.n, Exp.unit, Exp.s, Exp.args] <;> grind))
theorem zsh (s : List UInt8) (l : List Tok) (nx : Nat) (h : zoQ s = .ok l) :
  RetX Tryz.prog 103 [.u (.str s)] [] nx (fun r o n => r = .val (.tup [.ptr nx 0, .u (.int .i64 0), .u (.int .i64 0)]) /\ o = [(nx, pOb l 0)] /\ n = nx + 1) := by
 have h1 := zoP s;rw [h] at h1;simp only [ziL] at h1;refine RetX.runW Tryz.func103 Tryz.ntmps103 rfl (by simp) fun Γ hn hpan => ?_
 repeat' (first
  | (refine zaf rfl ?_; simp)
  | (refine CallP.f2 rfl (h1) (by first | simp <;> rfl | fail) ?_; simp)
  | fail)
 (refine EndW.h Tryz.results103 ?_; simp)
theorem zqn (s : List UInt8) (p : Nat) (e : Int) (nx : Nat) (h : zoQ s = .error (p, e)) :
  RetX Tryz.prog 103 [.u (.str s)] [] nx (fun r o n => r = .val (.tup [.ptr nx 0, .u (.int .i64 p), .u (.int .i64 e)]) /\ o = [(nx, pOb [] 0)] /\ n = nx + 1) := by
 have h1 := zoP s;rw [h] at h1;simp only [ziL] at h1;refine RetX.runW Tryz.func103 Tryz.ntmps103 rfl (by simp) fun Γ hn hpan => ?_
 repeat' (first
  | (refine zaf rfl ?_; simp)
  | (refine CallP.f2 rfl (h1) (by first | simp <;> rfl | fail) ?_; simp)
  | fail)
 (refine EndW.h Tryz.results103 ?_; simp)
theorem zlZ (i j nx : Nat) (hi : i < nx) (hj : j < nx) (hij : i ≠ j) (p e : Int) :
  RetX Tryz.prog 105 [.u (.oth .nilIface), .ptr i 0, .ptr j 0] [(i, .box [.u (.int .i64 p)]), (j, .box [.u (.int .i64 e)])] nx
   (fun r o n => r = .val (.u (.bool false)) /\ o = [(i, .box [.u (.int .i64 p)]), (j, .box [.u (.int .i64 e)])] /\ n = nx) := by
 have hne := zbg hi;have hne2 := zbg hj;refine RetX.runW Tryz.func105 Tryz.ntmps105 rfl (by simp) fun Γ hn hpan => ?_
 repeat' (first
  | (refine zaf rfl ?_; simp [hne, hne2, hij, Ne.symm hij])
  | fail)
 refine ⟨(true, [.int .i64 0, .int .i64 0]), rfl, ?_⟩;simp [hne, hne2, hij, Ne.symm hij]
 repeat' (first | fail)
 (refine EndW.z ([(i, .box [.u (.int .i64 p)]), (j, .box [.u (.int .i64 e)])]) (N := nx) Tryz.results105 (by simp [hne, hne2, hij, Ne.symm hij, hi, hj] <;> omega) ?_; simp [hne, hne2, hij, Ne.symm hij, hi, hj])
theorem zlY (i j nx : Nat) (hi : i < nx) (hj : j < nx) (hij : i ≠ j) (p e pos err : Int) :
  RetX Tryz.prog 105 [.u (.oth (.iface 179 (.agg #[.int .i64 pos, .int .i64 err]))), .ptr i 0, .ptr j 0] [(i, .box [.u (.int .i64 p)]), (j, .box [.u (.int .i64 e)])] nx
   (fun r o n => r = .val (.u (.bool true)) /\ o = [(i, .box [.u (.int .i64 pos)]), (j, .box [.u (.int .i64 err)])] /\ n = nx) := by
 have hne := zbg hi;have hne2 := zbg hj;refine RetX.runW Tryz.func105 Tryz.ntmps105 rfl (by simp) fun Γ hn hpan => ?_
 repeat' (first
  | (refine zaf rfl ?_; simp [hne, hne2, hij, Ne.symm hij])
  | (refine ⟨hC _ (zdo [i, j] nx (by simp <;> omega) (by simp <;> omega) (by apply Exists.intro; apply And.intro; (focus (repeat' (first | exact KF.nil | exact KL.nil | apply KF.cons | apply KL.cons 0 rfl | apply KL.cons 1 rfl | apply KL.cons 2 rfl | apply KL.cons 3 rfl | apply KL.cons 4 rfl | apply KL.cons 5 rfl | apply KL.cons 6 rfl | apply KL.cons 7 rfl | apply KL.cons 8 rfl | apply KL.cons 9 rfl))); kernel_rfl)), hk _ (zel 8 _ _ _ ?_)⟩; clear hC hk C k; simp [hne, hne2, hij, Ne.symm hij])
  | (refine zeW rfl (by kernel_rfl) (by first | (simp [hn]; done) | (simp [hn]; omega) | fail) fun C k hC hk => ?_; simp [hne, hne2, hij, Ne.symm hij])
  | fail)
 (refine EndW.z ([(i, .box [.u (.int .i64 pos)]), (j, .box [.u (.int .i64 err)])]) (N := nx) Tryz.results105 (by simp [hne, hne2, hij, Ne.symm hij, hi, hj] <;> omega) ?_; simp [hne, hne2, hij, Ne.symm hij, hi, hj])
theorem zqm (i j q nx : Nat) (hi : i < nx) (hj : j < nx) (hq : q < nx) (hij : i ≠ j) (hiq : i ≠ q) (hjq : j ≠ q) (p e : Int) (cells : List U) :
  RetDf Tryz.prog 104 [.ptr i 0, .ptr j 0, .ptr q 0] [(i, .box [.u (.int .i64 p)]), (j, .box [.u (.int .i64 e)]), (q, .box (cells.map .u))] nx .returning
   (fun u o n => settle u = .returning /\ n = nx /\ o = [(i, .box [.u (.int .i64 p)]), (j, .box [.u (.int .i64 e)]), (q, .box (cells.map .u))]) := by
 have hne := zbg hi;have hne2 := zbg hj;have hne3 := zbg hq;have hc0 := zlZ i j nx hi hj hij p e;refine RetDf.of_body Tryz.func104 rfl (by simp) (by simp) rfl fun Γ hn => ?_;simp [entry, znc, Tryz.ntmps104];refine CallP.x2 hc0 (by simp [getK]) (by simp [getK, hij, Ne.symm hij]) hij rfl rfl (by simp) (by simp) (fun d o1 nx' hnx h => ?_) (fun ch o1 nx' hnx h => by cases h.1);obtain ⟨h1, rfl, h4⟩ := h;have h4 := h4.symm;subst h4;cases h1;simp [del, hij, Ne.symm hij, hiq, hjq, Ne.symm hiq, Ne.symm hjq]
 repeat' (first
  | (refine zaf rfl ?_; simp [hij, hiq, hjq])
  | fail)
 (refine ⟨by simp, { n := _, env := [], obs := [(i, .box [.u (.int .i64 p)]), (j, .box [.u (.int .i64 e)]), (q, .box (cells.map .u))], next := nx }, (Wk.cut rfl (by simp [hn]) (by simp [wkO, zaa, getK, zab, zac, Ob.under, D.under, zai, zap, hi, hj, hq, hne, hne2, hne3, hij, hiq, hjq, Ne.symm hij, Ne.symm hiq, Ne.symm hjq]) (by simp [wkU, zaS, zaa, getK, D.under, hi, hj, hq, hne, hne2, hne3, hij, hiq, hjq, Ne.symm hij, Ne.symm hiq, Ne.symm hjq]) (by simp [wkE, zaS, zaa, getK, hi, hj, hq, hne, hne2, hne3, hij, hiq, hjq, Ne.symm hij, Ne.symm hiq, Ne.symm hjq])), by simp [hn], ?_⟩; try simp)
 all_goals rfl
end Go.Proofs.YtkdhmbhbbciedaaGreatDoor
namespace Go.Proofs.YtkdhmbhbbciedaaGreatDoor
open Go Go.VL
theorem ExpX.cast {lets shs m n e F F'} (h : ExpX lets shs m n e F) (e' : F = F') : ExpX lets shs m n e F' := e' ▸ h
theorem zsx {lets : List Let} (hr : ∀ l ∈ lets, zba 12 l.body = true) (hll : lets.length <= 20) (m : Nat) : ∀ (n : Nat), n <= lets.length -> ∀ (d : Nat), d <= 12 -> ∀ e : Exp, zba d e = true ->
  ExpX lets (zdj lets lets.length) m n e (zfV (nmC lets (shF lets) n) (shF lets n) e) := by
 intro n
 induction n using Nat.strongRecOn with
 | ind n ihn =>
 intro hn d
 induction d with
 | zero => intro _ e he; simp [zba] at he
 | succ d ih =>
  intro hd e he;obtain ⟨h1, h2, h3, h4⟩ := zdT he;have hcap := fun x => zfU (sh := shF lets n) (zhu (lets := lets) (sh := shF lets) n) x;have hpre := fun x => zg2 (sh := shF lets n) (zlB (lets := lets) (sh := shF lets) n) x;by_cases h0 : e.op = 0
  ·refine (zsw h0).cast (funext fun c => ?_);rw [zgn, if_pos h0]
  by_cases hnm : e.op = 1
  ·refine (zqS lets _ m n e hnm hn (by omega) fun i l hi hl => ⟨_, ihn i hi (by omega) 12 (by omega) l.body (hr l (List.mem_of_getElem? hl)), rfl⟩).cast (funext fun c => ?_);rw [zgn, if_neg h0, if_pos hnm]
  have hargs := h4 h0 hnm;have hE : ∀ x ∈ e.args, ExpX lets (zdj lets lets.length) m n x (zfV (nmC lets (shF lets) n) (shF lets n) x) := fun x hx => ih (by omega) x (hargs x hx);by_cases hA : e.op = 10
  ·obtain ⟨a, b, hab⟩ : ∃ a b, e.args = [a, b] := by
    have hl : e.args.length = 2 := by rw [hA] at h1; simp [zcu] at h1; omega
    match hq : e.args, hl with
    | [a, b], _ => exact ⟨a, b, rfl⟩
   refine (zgr (.inl hA) (znR hA hab (hE a (by simp [hab])) (hcap a) (hpre a) (hE b (by simp [hab])) (hcap b) (hpre b))).cast (funext fun c => ?_);rw [zgn, if_neg h0, if_neg hnm, if_pos hA, hab, ze8 (i := 0) (e := a) rfl, ze8 (i := 1) (e := b) rfl]
  by_cases hO : e.op = 11
  ·obtain ⟨a, b, hab⟩ : ∃ a b, e.args = [a, b] := by
    have hl : e.args.length = 2 := by rw [hO] at h1; simp [zcu] at h1; omega
    match hq : e.args, hl with
    | [a, b], _ => exact ⟨a, b, rfl⟩
   refine (zgr (.inr (.inl hO)) (zpq hO hab (hE a (by simp [hab])) (hcap a) (hpre a) (hE b (by simp [hab])) (hcap b) (hpre b))).cast (funext fun c => ?_);rw [zgn, if_neg h0, if_neg hnm, if_neg hA, if_pos hO, hab, ze8 (i := 0) (e := a) rfl, ze8 (i := 1) (e := b) rfl]
  by_cases hI : e.op = 13
  ·obtain ⟨a, b, z, hab⟩ : ∃ a b z, e.args = [a, b, z] := by
    have hl : e.args.length = 3 := by rw [hI] at h1; simp [zcu] at h1; omega
    match hq : e.args, hl with
    | [a, b, z], _ => exact ⟨a, b, z, rfl⟩
   refine (zgr (.inr (.inr hI)) (zpr hI hab (hE a (by simp [hab])) (hcap a) (hpre a) (hE b (by simp [hab])) (hcap b) (hpre b) (hE z (by simp [hab])) (hcap z) (hpre z))).cast (funext fun c => ?_);rw [zgn, if_neg h0, if_neg hnm, if_neg hA, if_neg hO, if_pos hI, hab, ze8 (i := 0) (e := a) rfl, ze8 (i := 1) (e := b) rfl, ze8 (i := 2) (e := z) rfl]
  refine (zpg lets m n d e (by omega) hn (by omega) hr hll he (by omega) hE).cast (funext fun c => ?_);rw [zgn, if_neg h0, if_neg hnm, if_neg hA, if_neg hO, if_neg hI]
abbrev zb3 (l : List Bool) : List (List D) := l.map fun b => [.u (.bool b)]
theorem zeM (l : List Bool) : zbQ (zb3 l) = some (l.map fun b => [.bool b]) := by
 have : zb3 l = (l.map fun b => [U.bool b]).map (·.map D.u) := by simp [zb3]
 rw [this, zf6]
theorem zi1 (l : List Bool) : (zb3 l).take l.length = zb3 l := by have : (zb3 l).length = l.length := by simp [zb3]
                                                                  rw [<- this, List.take_length]
theorem zhm (l : List Bool) : zaF (zb3 l) := by
 induction l with
 | nil => simp [zb3, zaF]
 | cons a l ih => simp only [zb3] at ih; simp [zb3, zaF, zbe, ih]
theorem zi2 (l : List Bool) : zh3 1 (zb3 l) := by intro r hr; obtain ⟨i, _, rfl⟩ := List.mem_map.1 hr; rfl
end Go.Proofs.YtkdhmbhbbciedaaGreatDoor
namespace Go.Proofs.YtkdhmbhbbciedaaGreatDoor
open Go Go.VL Go.Shelf Go.RowKit
attribute [local simp] HS zaY zcB zbz evPure opd uOf zal St.put St.at getK binD binI binS binB nilD aggD zeS zfd lookD lookR zbE rangeS Go.VL.nextD Go.VL.nextS zbJ zfk zfe zeu zb7 mkV zaZ zcH zaL za1 mapEff zdw zek Key.kk shiftI arith unD convD zcP loadD cellsAt fieldAddrD fieldD indexAddrD indexSlD arrAddr indexD sliceD cutD lenD minmaxD nilCheckD buildD fillD zbn zcC zd1 setAll zcx zdZ zbD zeO zbC St.add zaj za6 rowsOf zcI zca zad zac zaa zaQ zcs zaG entry za2 za3 valD zbK zcq zeL zcD zcE zbp zbo zag zaB za0 delAll effD St.effS zb4 zaD zas zb5 zaE zau zbl zat zan zbm zb2 zaW zbj zaJ zbi zah mkD zbd za4 zbb zag zbN D.ids Op.operands Call.operands za5 makeIfD makeFuncD typeAssertD zfc zcL zcM zeY zbG IntKind.bits zbQ zam List.take_of_length_le List.range_succ
attribute [local irreducible] V G H HD HD2 HD4 zgA RetX zaT Eff CallP CallV EndOK Fun Ret FinOK LoopI LoopW EndW
theorem zmT : zl0 Tryz.prog 86 9 = some u8T := by kernel_rfl
theorem zm0 (l s : W8) (i j nx : Nat) (hi : i < nx) (hj : j < nx) (hij : i ≠ j) (hlen : l.length + s.length <= 140737488355328) :
  RetX Tryz.prog 49 [.ptr i 0, .u (.str s)] [(i, .box [.ptr i 0, .vec j l.length]), (j, .vec u8T 1 (zdP l))] nx
   (fun r o n => r = .val (.tup [.u (.int .i64 s.length), .u (.oth .nilIface)]) /\ o = [(i, .box [.ptr i 0, .vec nx (l.length + s.length)]), (nx, .vec u8T 1 (zdP (l ++ s)))] /\ n = nx + 1) := by
 have hne := zbg hi;have hne2 := zbg hj;have hcp := fun nx' (h : nx <= nx') => zpn i nx' (by omega) (.vec j l.length);have hbi := zmT;have hca : zae Tryz.prog 83 = true := by kernel_rfl
 have hbl := zn1 l;rw [show zdP (l ++ s) = rowsD (zex l ++ zex s) by rw [zdP, zn2]]
 (refine RetX.of_bodyW Tryz.func49 rfl (by simp) fun Γ hn hpan => ?_); simp only [entry, List.zipIdx_cons, List.zipIdx_nil, List.map_cons, List.map_nil, Nat.zero_add, Tryz.ntmps49]
 repeat' (first
  | (refine zlk ?_; simp [zf5, hne, hne2, hij, Ne.symm hij, del, hbi, hbl, hlen])
  | (refine zhX ?_; simp [hne, hne2, hij, Ne.symm hij, del, hbi, hbl, hlen])
  | (refine zma ?_; simp [hne, hne2, hij, Ne.symm hij, del, hbi, hbl, hlen])
  | (refine zhV ?_; simp [hne, hne2, hij, Ne.symm hij, del, hbi, hbl, hlen])
  | (refine zn5 ?_; simp only [zaT])
  | (refine CallP.ok1 (hcp _ (by first | omega | (simp; done) | (simp; omega) | fail)) (by first | (simp [hne, hne2, hij, Ne.symm hij, del, hbi, hbl, hlen, zaa, getK, zab, zac]; done) | fail) (by rfl) (by first | assumption | (simp; done) | fail) (by rfl) (by simp) ?_; (try simp [hne, hne2, hij, Ne.symm hij, del, hbi, hbl, hlen]))
  | fail)
 (refine EndW.here ?_; (first | (refine EndOK.fin (.inr rfl) ?_) | (refine EndOK.fin (.inl rfl) ?_)); simp [zdG, zar, Tryz.results49, hne, hne2, hi, hj, hij, Ne.symm hij]; refine FinOK.cut [(i, .box [.ptr i 0, .vec nx (l.length + s.length)]), (nx, .vec u8T 1 (rowsD (zex l) ++ rowsD (zex s)))] (nx + 1) (by simp [zaa, getK, zab, zac, Ob.under, D.under, zai, zap, hne, hne2, hi, hj, hij, Ne.symm hij] <;> omega) (by simp [D.under]) (by simp [hn]) ?_; try simp)
theorem zoa (s : W8) (i nx : Nat) (hi : i < nx) (hlen : s.length <= 140737488355328) :
  RetX Tryz.prog 49 [.ptr i 0, .u (.str s)] [(i, .nw bT)] nx
   (fun r o n => r = .val (.tup [.u (.int .i64 s.length), .u (.oth .nilIface)]) /\ o = [(i, .box [.ptr i 0, .vec (nx + 1) s.length]), (nx + 1, .vec u8T 1 (zdP s))] /\ n = nx + 2) := by
 have hne := zbg hi;have hcp := fun nx' (h : nx <= nx') => zqV i nx' (by omega);have hbi := zmT;have hca : zae Tryz.prog 83 = true := by kernel_rfl
 (refine RetX.of_bodyW Tryz.func49 rfl (by simp) fun Γ hn hpan => ?_); simp only [entry, List.zipIdx_cons, List.zipIdx_nil, List.map_cons, List.map_nil, Nat.zero_add, Tryz.ntmps49]
 repeat' (first
  | (refine zlk ?_; simp [zf5, hne, del, hbi, hlen])
  | (refine zhX ?_; simp [hne, del, hbi, hlen])
  | (refine zma ?_; simp [hne, del, hbi, hlen])
  | (refine zhV ?_; simp [hne, del, hbi, hlen])
  | (refine zn5 ?_; simp only [zaT])
  | (refine CallP.okL (hcp _ (by first | omega | (simp; done) | (simp; omega) | fail)) (by first | (simp [hne, del, hbi, hlen, zaa, getK, zab, zac, zad, zah, del]; done) | fail) (by rfl) (by first | assumption | (simp; done) | fail) (by rfl) (by simp) ?_; (try simp [hne, del, hbi, hlen, zdt, del]))
  | fail)
 (refine EndW.here ?_; (first | (refine EndOK.fin (.inr rfl) ?_) | (refine EndOK.fin (.inl rfl) ?_)); simp [zdG, zar, Tryz.results49, hne, hi]; refine FinOK.cut [(i, .box [.ptr i 0, .vec (nx + 1) s.length]), (nx + 1, .vec u8T 1 (zdP s))] (nx + 2) (by simp [zaa, getK, zab, zac, Ob.under, D.under, zai, zap, hne, hi] <;> omega) (by simp [D.under]) (by simp [hn]) ?_; try simp)
end Go.Proofs.YtkdhmbhbbciedaaGreatDoor
namespace Go.Proofs.YtkdhmbhbbciedaaGreatDoor
open Go Go.VL
attribute [local simp] HS zaY zcB zbz evPure opd uOf zal St.put St.at getK binD binI binS binB nilD aggD zeS zfd lookD lookR zbE rangeS Go.VL.nextD Go.VL.nextS zbJ zfk zfe zeu zb7 mkV zaZ zcH zaL za1 mapEff zdw zek Key.kk shiftI arith unD convD zcP loadD cellsAt fieldAddrD fieldD indexAddrD indexSlD arrAddr indexD sliceD cutD lenD minmaxD nilCheckD buildD fillD zbn zcC zd1 setAll zcx zdZ zbD zeO zbC St.add zaj za6 rowsOf zcI zca zad zac zaa zaQ zcs zaG entry za2 za3 valD zbK zcq zeL zcD zcE zbp zbo zag zaB za0 delAll effD St.effS zb4 zaD zas zb5 zaE zau zbl zat zan zbm zb2 zaW zbj zaJ zbi zah mkD zbd za4 zbb zag zbN D.ids Op.operands Call.operands za5 makeIfD makeFuncD typeAssertD zfc zcL zcM zeY zbG IntKind.bits zbQ zam List.take_of_length_le List.range_succ
attribute [local irreducible] V G H HD HD2 HD4 zgA RetX zaT Eff CallP CallV EndOK Fun Ret FinOK LoopI LoopW EndW
theorem zqz (l : Code) (hll : l.length <= 1000000) (hr : zct l = true) : RetX Tryz.prog 19 [.u (Vm.inss l)] [] 0 (fun r o n => r = .val (.u (.str (zdd l)))) := by
 have hri := zew l hll;rw [hr] at hri;have hit := fun i x (h : l[i]? = some x) => ziy hr h;simp only [Vm.inss] at hri ⊢
 (refine RetX.of_bodyW Tryz.func19 rfl (by simp) fun Γ hn hpan => ?_); simp only [entry, List.zipIdx_cons, List.zipIdx_nil, List.map_cons, List.map_nil, Nat.zero_add, Tryz.ntmps19]
 repeat' (first
  | (refine zrC (by first | (simp; done) | fail) (by simp) ?_; simp)
  | (refine zhX ?_; simp)
  | (refine zma ?_; simp)
  | (refine zhV ?_; simp)
  | (refine zpM ?_; simp)
  | (refine zrq ?_; simp)
  | (refine zlf ?_; simp only [zaT])
  | (refine CallP.fun_ (hri) (by first | rfl | fail) (by first | assumption | (simp; done) | fail) (by first | (simp; done) | (simp; rfl) | fail) (by first | (simp; done) | fail) (fun d hd => ?_); subst hd; (try simp))
  | fail)
 refine zdg (α := { i : Nat // i <= l.length }) [3, 9, 10] (fun i => [(11, .u (.int .i64 i.1))]) (fun i => zlI (zdd (l.take i.1)) i.1) 2 (fun i => l.length - i.1) ⟨0, by omega⟩ ?_ ?_
 ·simp only [zlI, if_pos];exact (Wk.cut rfl (by simp [hn, St.lp]) (by simp [wkO, St.lp, zaa, getK, Ob.under, D.under, zai, zap]) (by simp [wkU, St.lp, zaS, zaa, getK, D.under]) (by simp [wkE, St.lp, zaS, zaa, getK] <;> (try (intros; simp_all; done)) <;> (try (intros; omega)) <;> (try grind)))
 rintro ⟨i, hi⟩;simp [St.lp, St.only, zaS, zaa, getK];rcases hx : l[i]? with _ | x
 ·have hge : l.length <= i := by simpa using hx
  obtain rfl : i = l.length := by omega
  have hne : ¬ l.length = 0 := by
   simp only [zct, Bool.and_eq_true, decide_eq_true_eq] at hr;omega
  have hll2 := zjt hr l.length (Nat.le_refl _);simp only [List.take_length] at hll2 ⊢;have hnz : zdd l ≠ [] := fun e => by
   cases l with
   | nil => exact hne rfl
   | cons x r => simp [zdd, ze5] at e
  have hst := fun nx (h : 2 <= nx) => zm4 0 1 nx (by omega) (by omega) (by decide) (zdd l) hnz;have hca : zae Tryz.prog 51 = true := by kernel_rfl
  simp only [zlI, if_neg hne];generalize zdd l = T at *
  repeat' (first
  | (refine zhX ?_; simp [hx, hca])
  | (refine zma ?_; simp [hx, hca])
  | (refine zhV ?_; simp [hx, hca])
  | (refine zn5 ?_; simp only [zaT])
  | (refine zpQ ?_; simp [zaT])
  | (refine CallP.okL (hst _ (by first | omega | (simp; done) | (simp; omega) | fail)) (by first | (simp [hx, hca, zaa, getK, zab, zac, zad, zah, del]; done) | fail) (by rfl) (by first | assumption | (simp; done) | fail) (by rfl) (by simp) ?_; (try simp [hx, hca, zdt, del]))
  | fail)
  (refine EndW.here ?_; (first | (refine EndOK.fin (.inr rfl) ?_) | (refine EndOK.fin (.inl rfl) ?_)); simp [zdG, zar, Tryz.results19]; refine FinOK.cut [] (2) (by simp [zaa, getK, zab, zac, Ob.under, D.under, zai, zap] <;> omega) (by simp [D.under]) (by simp [hn]) ?_; try simp)
 ·have hlt : i < l.length := (List.getElem?_eq_some_iff.1 hx).1;have hxe : l[i]'hlt = x := (List.getElem?_eq_some_iff.1 hx).2;obtain ⟨o0, o1, o2, o3, o4⟩ := hit i x hx;have hli := zqA x o0 o1 (by omega) (by omega) (by omega);have hca : zae Tryz.prog 49 = true := by kernel_rfl
  have hl1 := zjt hr i hi;have hl2 := zmu x (hit i x hx);have htk := zkH hx;by_cases h0 : i = 0
  ·subst h0;have hn0 : ¬ l = [] := fun e => by rw [e] at hx; cases hx
   have hwr := fun nx (h : 2 <= nx) => zoa (ze5 x) 0 nx (by omega) (by omega);simp only [zlI, if_pos]
   repeat' (first
  | (refine zhX ?_; simp [hx, hca, hxe, hn0])
  | (refine zma ?_; simp [hx, hca, hxe, hn0])
  | (refine zhV ?_; simp [hx, hca, hxe, hn0])
  | (refine zle ?_; simp [hx, hca, hxe, hn0])
  | (refine zlf ?_; simp only [zaT])
  | (intro hc <;> (try (exfalso; omega)))
  | (refine CallP.fun_ (hli) (by first | rfl | fail) (by first | assumption | (simp; done) | fail) (by first | (simp [hx, hca, hxe, hn0]; done) | (simp [hx, hca, hxe, hn0]; rfl) | fail) (by first | (simp; done) | fail) (fun d hd => ?_); subst hd; (try simp [hx, hca, hxe, hn0]))
  | (refine CallP.okL (hwr _ (by first | omega | (simp; done) | (simp; omega) | fail)) (by first | (simp [hx, hca, hxe, hn0, zaa, getK, zab, zac, zad, zah, del]; done) | fail) (by rfl) (by first | assumption | (simp; done) | fail) (by rfl) (by simp) ?_; (try simp [hx, hca, hxe, hn0, zdt, del]))
  | fail)
   refine LoopW.next ⟨1, by omega⟩ (by simp; omega) ?_
   have e1 : zdd (l.take 1) = ze5 x := by rw [htk]; simp [zdd]
   simp only [zlI, e1, if_neg (show ¬ (1 : Nat) = 0 by decide)];exact (Wk.ren ((fun x => if x = 1 then 4 else x)) rfl (by first | (simp [hn]; done) | (intro i hi; rw [hn] at hi; constructor <;> (try simp) <;> (try (intro _)) <;> omega)) (by simp [zfK, St.lp, zaS, zaa, getK, zac, zad, D.under, D.le, D.ren] <;> (try (intros; simp_all; done)) <;> (try omega)) (by simp [wkR, St.lp, zaa, getK, zac, zad, obR, leU, zbe, zaF, Ob.under, D.under, D.le, D.ren] <;> (try (intros; simp_all; done)) <;> (try omega)) (by simp))
  ·have hwr := fun nx (h : 2 <= nx) => zm0 (zdd (l.take i)) (ze5 x) 0 1 nx (by omega) (by omega) (by decide) (by omega);simp only [zlI, if_neg h0]
   repeat' (first
  | (refine zhX ?_; simp [hx, hca, hxe])
  | (refine zma ?_; simp [hx, hca, hxe])
  | (refine ⟨by omega, ?_⟩)
  | (refine zhV ?_; simp [hx, hca, hxe])
  | (refine zle ?_; simp [hx, hca, hxe])
  | (refine zlf ?_; simp only [zaT])
  | (refine ⟨?_, by omega⟩)
  | (intro hc <;> (try (exfalso; omega)))
  | (refine CallP.fun_ (hli) (by first | rfl | fail) (by first | assumption | (simp; done) | fail) (by first | (simp [hx, hca, hxe]; done) | (simp [hx, hca, hxe]; rfl) | fail) (by first | (simp; done) | fail) (fun d hd => ?_); subst hd; (try simp [hx, hca, hxe]))
  | (refine CallP.okL (hwr _ (by first | omega | (simp; done) | (simp; omega) | fail)) (by first | (simp [hx, hca, hxe, zaa, getK, zab, zac, zad, zah, del]; done) | fail) (by rfl) (by first | assumption | (simp; done) | fail) (by rfl) (by simp) ?_; (try simp [hx, hca, hxe, zdt, del]))
  | fail)
   refine LoopW.next ⟨i + 1, by omega⟩ (by simp; omega) ?_
   simp only [zlI, htk, List.length_append, if_neg (show ¬ i + 1 = 0 by omega)];exact (Wk.ren ((fun x => if x = 1 then 3 else x)) rfl (by first | (simp [hn]; done) | (intro i hi; rw [hn] at hi; constructor <;> (try simp) <;> (try (intro _)) <;> omega)) (by simp [zfK, St.lp, zaS, zaa, getK, zac, zad, D.under, D.le, D.ren] <;> (try (intros; simp_all; done)) <;> (try omega)) (by simp [wkR, St.lp, zaa, getK, zac, zad, obR, leU, zbe, zaF, Ob.under, D.under, D.le, D.ren] <;> (try (intros; simp_all; done)) <;> (try omega)) (by simp))
def ze4 (l : Code) : List UInt8 := if zct l = true then zdd l else []
theorem zmt (l : Code) (hll : l.length <= 1000000) : Fun Tryz.prog 19 [.u (Vm.inss l)] (· = .u (.str (ze4 l))) := by
 cases hb : zct l with
 | true =>
  unfold Fun;exact (zqz l hll hb).ret (fun d o n h => by
   cases h;exact ⟨by simp [zaV], by simp [ze4, hb]⟩) (fun ch o n h => by cases h)
 | false =>
  have hri := zew l hll;rw [hb] at hri;have hp : ze4 l = [] := by unfold ze4; rw [if_neg (by simp [hb])]
  rw [hp];simp only [Vm.inss] at hri ⊢
  (refine Fun.of_body Tryz.func19 rfl (by simp) fun Γ hn => ?_); simp only [entry, List.zipIdx_cons, List.zipIdx_nil, List.map_cons, List.map_nil, Nat.zero_add, Tryz.ntmps19]
  repeat' (first
  | (refine zhX ?_; simp)
  | (refine zma ?_; simp)
  | (refine zhV ?_; simp)
  | (refine zpM ?_; simp)
  | (refine zn5 ?_; simp only [zaT])
  | (refine CallP.fun_ (hri) (by first | rfl | fail) (by first | assumption | (simp; done) | fail) (by first | (simp; done) | (simp; rfl) | fail) (by first | (simp; done) | fail) (fun d hd => ?_); subst hd; (try simp))
  | fail)
  (refine EndOK.val (.inr rfl) ?_; simp [zdG, zar, zaV, Tryz.results19])
end Go.Proofs.YtkdhmbhbbciedaaGreatDoor
namespace Go.Proofs.YtkdhmbhbbciedaaGreatDoor
open Go Go.VL
attribute [local simp] HS zaY zcB zbz evPure opd uOf zal St.put St.at getK binD binI binS binB nilD aggD zeS zfd lookD lookR zbE rangeS Go.VL.nextD Go.VL.nextS zbJ zfk zfe zeu zb7 mkV zaZ zcH zaL za1 mapEff zdw zek Key.kk shiftI arith unD convD zcP loadD cellsAt fieldAddrD fieldD indexAddrD indexSlD arrAddr indexD sliceD cutD lenD minmaxD nilCheckD buildD fillD zbn zcC zd1 setAll zcx zdZ zbD zeO zbC St.add zaj za6 rowsOf zcI zca zad zac zaa zaQ zcs zaG entry za2 za3 valD zbK zcq zeL zcD zcE zbp zbo zag zaB za0 delAll effD St.effS zb4 zaD zas zb5 zaE zau zbl zat zan zbm zb2 zaW zbj zaJ zbi zah mkD zbd za4 zbb zag zbN D.ids Op.operands Call.operands za5 makeIfD makeFuncD typeAssertD zfc zcL zcM zeY zbG IntKind.bits zbQ zam List.take_of_length_le List.range_succ zci zbx zcj zcd za7 zbq zbs zce zbu zaP zbt zbr zfJ zbw zcg zaH zav zch zaI zax zbv zaw zaq zcm zcn zfH zab frzN frz1 zaO zaN St.frz St.frzS frzS fv zbI zbV zcb zaM zay zao frz zcc zbH zbS zbT zaX St.norm St.lp St.only zaS wkE wkO wkU Ob.under D.under zai zap zck zby zcl h4s zdG zar zaV List.zipIdx_cons List.zipIdx_nil List.map_cons List.map_nil Nat.zero_add
attribute [local irreducible] V G H HD HD2 HD4 zgA RetX zaT Eff CallP CallV EndOK Fun Ret FinOK LoopI LoopW EndW HR vs2 RN Cnd H4
theorem zsX (l : Let) : Fun Tryz.prog 33 (zpZ l :: [].map .u) (· = .u (.bool (!zba 12 l.body))) := by
 have h1 := zd7 l.body;simp only [zpZ, List.map_nil, zcF] at h1 ⊢;refine Fun.run Tryz.func33 Tryz.ntmps33 Tryz.results33 rfl (by simp) fun Γ hn => ?_
 repeat' (first
  | (refine zaf rfl ?_; simp)
  | (refine CallP.f2 rfl (h1) (by first | simp <;> rfl | fail) ?_; simp)
  | fail)
 (refine Pst.of ?_; simp)
theorem zeJ (lets : List Let) (e : Exp) : Fun Tryz.prog 12 [.u (zaz lets), zcF e] (· = .tup [.u (Vm.inss (zdC lets e).1), .u (.int .i64 (zdC lets e).2)]) := by
 have h1 := zd7 e;have h2 := zjN lets 33 [] _ (fun x _ => zsX x) (by simp) (fun _ => rfl) (fun _ => rfl);simp only [List.map_nil, zaz, zcF] at h1 h2;by_cases hra : zbW lets e = true
 case neg =>
  have hcp : zdC lets e = ([], 1) := by unfold zdC; rw [if_neg hra]
  rw [hcp];unfold zbW at hra;generalize zba 12 e = x1 at *;generalize (lets.any fun l => !zba 12 l.body) = x2 at *;simp only [zaz, zcF, Vm.inss];refine Fun.runW Tryz.func12 Tryz.ntmps12 rfl (by simp) fun Γ hn => ?_
  repeat' (first
  | (refine Cnd.of (fun hc => ?_) (fun hc => ?_) <;> (try (exfalso; omega)) <;> (try simp))
  | (refine zaf rfl ?_; simp)
  | ((first | refine CallP.f2 rfl (h1) (by first | simp <;> rfl | fail) ?_ | refine CallP.f2 rfl (h2) (by first | simp <;> rfl | fail) ?_ | fail); simp)
  | fail)
  all_goals first
   | (refine EndW.norm (EndW.here ?_); (refine EndOK.val (.inr rfl) ?_; simp [Tryz.results12]); done)
   | (exfalso; apply hra; simp_all; done)
   | (exfalso; apply hra; simp_all; omega)
 obtain ⟨r1, r2, r3⟩ := zgg hra;have r4 : (lets.any fun l => !zba 12 l.body) = false := by
  rw [List.any_eq_false];intro l hl;simp [r3 l hl]
 rw [r2] at h1;rw [r4] at h2;have r1' : ¬ (20 : Int) < lets.length := by omega
 have hL := zff (lets := lets) (n := lets.length) (Nat.le_refl _);have a1 := zsx r3 r1 1 lets.length (Nat.le_refl _) 12 (by omega) e r2 [] 3 4 (by omega) (by omega) (by omega) (by simp);have hcl : zdC lets e = if 2000 <= (zgs lets e).length then ([], 6) else (zgs lets e ++ [⟨14, 0, []⟩], 0) := by unfold zdC; rw [if_pos hra]
 rw [hcl];have hcc : zfV (nmC lets (shF lets) lets.length) (shF lets lets.length) e [] = zgs lets e := rfl;have hcap : (zgs lets e).length <= 2001 := zfU (zhu lets.length) e [] (by simp);rw [hcc] at a1;generalize zgs lets e = L at *;have a2 := zqQ (zaz lets) (zaA (zdj lets lets.length)) L;have e1 := zez L;have e2 := zhD L;have e3 := zeG L;have a3 := zfO lets (zdj lets lets.length) L ⟨14, 0, []⟩ 1 4 5 (by omega) (by omega) (by omega) (by omega);have htk : List.take lets.length ((zdj lets lets.length).map fun b => [U.bool b]) = (zdj lets lets.length).map fun b => [U.bool b] := by
  exact List.take_of_length_le (by simp [hL])
 have hpL : zb8 L ⟨14, 0, []⟩ = if 2000 <= L.length then zb8 L ⟨14, 0, []⟩ else L ++ [⟨14, 0, []⟩] := by
  split
  ·rfl
  ·unfold zb8; rw [if_pos (by omega)]
 by_cases hf : 2000 <= L.length
 ·rw [if_pos hf];have hf2 : (decide (2000 <= L.length)) = true := by simpa using hf
  rw [hf2] at a2;simp only [zaz, zcF, Vm.inss, zaA] at a1 a2 ⊢;refine Fun.runW Tryz.func12 Tryz.ntmps12 rfl (by simp) fun Γ hn => ?_
  repeat' (first
  | (refine zaf rfl ?_; simp [r1'])
  | ((first | refine CallP.f2 rfl (h1) (by first | simp [r1'] <;> rfl | fail) ?_ | refine CallP.f2 rfl (h2) (by first | simp [r1'] <;> rfl | fail) ?_ | fail); simp [r1'])
  | fail)
  refine zn9 _ (Wk.ownC 1 _ 1 4 1 (by decide) rfl rfl) ?_;simp [St.ownC];refine zn9 _ (Wk.ownC 1 _ 2 44 3 (by decide) rfl rfl) ?_;simp [St.ownC];refine zdg (α := { i : Nat // i <= lets.length }) [0, 3, 7, 26, 27] (fun i => [(28, .u (.int .i64 i.1))])
   (fun i => [(0, .box [.u (.int .i64 e.op), .u (.int .i64 e.n), .u (.int .i64 e.unit), .u (.str e.s), .u (.sl (e.args.map Exp.row))]), (1, .box [.u (.sl (lets.map fun l => [.str l.name, .int .i64 l.body.op, .int .i64 l.body.n, .int .i64 l.body.unit, .str l.body.s, .sl (l.body.args.map Exp.row)])), .vec 2 i.1, .vec 3 0]), (2, .vec 4 1 (zb3 (zdj lets i.1))), (3, kOb [])]) 4 (fun i => lets.length - i.1) ⟨0, by omega⟩ ?_ ?_
  ·exact (Wk.zeX (by simp [hn, zdj, zb3, kOb, zdk] <;> grind))
  rintro ⟨i, hi⟩;simp;by_cases hil : i < lets.length
  case pos =>
   have hx : lets[i]? = some lets[i] := List.getElem?_eq_getElem hil;have hsl := zff (lets := lets) (n := i) (by omega);have h5 := zdh lets (zdj lets i) (.sl []) i (by omega) (by omega) (by omega) 12 _ (r3 _ (List.mem_of_getElem? hx));have hsucc : zdj lets (i + 1) = zdj lets i ++ [shareS (nmS lets (zdj lets i) i) (lets[i]).body] := by
    rw [zdj, hx];simp only;rw [show nmS lets (zdj lets i) i = sF (mOf [] (lets.take i)) from funext fun s => zmo (by omega) (Nat.le_refl _) s]
   have hp := zhm (zdj lets (i + 1));have hss : zb3 (zdj lets (i + 1)) = zb3 (zdj lets (i + 1)) := rfl
   conv at hss => rhs; rw [hsucc]
   rw [hsucc] at hp;generalize shareS (nmS lets (zdj lets i) i) (lets[i]).body = b at *;generalize lets[i] = l at *;have hb1 := zeM (zdj lets i);have hb2 := zi1 (zdj lets i);rw [hsl] at hb2;have hb3 : (zb3 (zdj lets i)).length = i := by simp [zb3, hsl]
   have hb4 := zi2 (zdj lets i);have hb5 : zb3 (zdj lets i ++ [b]) = zb3 (zdj lets i) ++ [[.u (.bool b)]] := by simp [zb3]
   rw [hb5] at hp hss;clear hsucc hb5;generalize zb3 (zdj lets i) = R at *;simp only [zcF, zaz, zaA] at h5
   repeat' (first
  | (refine Cnd.of (fun hc => ?_) (fun hc => ?_) <;> (try (exfalso; omega)) <;> (try simp [hx, hb1, hb2, hb3, hb4, kOb, zdk]))
  | (refine zaf rfl ?_; simp [hx, hb1, hb2, hb3, hb4, kOb, zdk])
  | (refine And.intro (by omega) ?_)
  | (refine ⟨hC _ (by kernel_rfl), hk _ (zel 8 _ _ _ ?_)⟩; clear hC hk C k; simp [hx, hb1, hb2, hb3, hb4, kOb, zdk])
  | (refine zeW rfl (by kernel_rfl) (by first | (simp [hn]; done) | (simp [hn]; omega) | fail) fun C k hC hk => ?_; simp [hx, hb1, hb2, hb3, hb4, kOb, zdk])
  | (refine zc7 rfl ?_; simp [hx, hb1, hb2, hb3, hb4, kOb, zdk])
  | (refine zdN rfl ?_; simp [hx, hb1, hb2, hb3, hb4, kOb, zdk])
  | (refine CallV.f2 rfl (h5) (by first | simp [hx, hb1, hb2, hb3, hb4, kOb, zdk] <;> rfl | fail) ?_; simp [hx, hb1, hb2, hb3, hb4, kOb, zdk])
  | fail)
   refine LoopW.next ⟨i + 1, by omega⟩ (by simp; omega) ?_
   exact (Wk.ren ((fun j => if j = 2 then 6 else j)) rfl (by first | (simp [hn]; done) | (intro i hi; rw [hn] at hi; constructor <;> (try simp) <;> (try (intro _)) <;> omega)) (by simp [zfK, St.lp, zaS, zaa, getK, zac, zad, D.under, D.le, D.ren, hss, hp, kOb, zdk] <;> (try (intros; simp_all; done)) <;> (try omega)) (by simp [wkR, St.lp, zaa, getK, zac, zad, obR, leU, zbe, zaF, Ob.under, D.under, D.le, D.ren, hss, hp, kOb, zdk] <;> (try (intros; simp_all; done)) <;> (try omega)) (by simp [hss, hp, kOb, zdk]))
  obtain rfl : i = lets.length := by omega
  refine zn9 _ (Wk.frz (e := 4) (sz := 1) 2 [1] (us := (zdj lets lets.length).map fun b => [U.bool b]) (by simp [zaa]) (zeM _)) ?_;simp [St.frz, St.frzS, frzS, fv, zbI, zaM, del, hL, htk]
  repeat' (first
  | (refine zaf rfl ?_; simp [kOb, cOb, zaz, zaA, e1, e2, e3])
  | (refine CallP.f2 rfl (a2) (by first | simp [kOb, cOb, zaz, zaA, e1, e2, e3] <;> rfl | fail) ?_; simp [kOb, cOb, zaz, zaA, e1, e2, e3])
  | (refine CallP.okL (a1) (by first | (simp [kOb, cOb, zaz, zaA, e1, e2, e3, zaa, getK, zab, zac, zad, zah, del]; done) | fail) (by rfl) (by first | assumption | (simp; done) | fail) (by rfl) (by simp) ?_; (try simp [kOb, cOb, zaz, zaA, e1, e2, e3, zdt, del]))
  | fail)
  refine EndW.norm (EndW.here ?_)
  (refine EndOK.val (.inr rfl) ?_; simp [Tryz.results12])
 ·rw [if_neg hf];have hf2 : (decide (2000 <= L.length)) = false := by simpa using hf
  rw [hf2] at a2;rw [hpL, if_neg hf] at a3;have g1 := zez (L ++ [⟨14, 0, []⟩]);simp only [zaz, zcF, Vm.inss, zaA] at a1 a2 a3 ⊢;refine Fun.runW Tryz.func12 Tryz.ntmps12 rfl (by simp) fun Γ hn => ?_
  repeat' (first
  | (refine zaf rfl ?_; simp [r1'])
  | ((first | refine CallP.f2 rfl (h1) (by first | simp [r1'] <;> rfl | fail) ?_ | refine CallP.f2 rfl (h2) (by first | simp [r1'] <;> rfl | fail) ?_ | fail); simp [r1'])
  | fail)
  refine zn9 _ (Wk.ownC 1 _ 1 4 1 (by decide) rfl rfl) ?_;simp [St.ownC];refine zn9 _ (Wk.ownC 1 _ 2 44 3 (by decide) rfl rfl) ?_;simp [St.ownC];refine zdg (α := { i : Nat // i <= lets.length }) [0, 3, 7, 26, 27] (fun i => [(28, .u (.int .i64 i.1))])
   (fun i => [(0, .box [.u (.int .i64 e.op), .u (.int .i64 e.n), .u (.int .i64 e.unit), .u (.str e.s), .u (.sl (e.args.map Exp.row))]), (1, .box [.u (.sl (lets.map fun l => [.str l.name, .int .i64 l.body.op, .int .i64 l.body.n, .int .i64 l.body.unit, .str l.body.s, .sl (l.body.args.map Exp.row)])), .vec 2 i.1, .vec 3 0]), (2, .vec 4 1 (zb3 (zdj lets i.1))), (3, kOb [])]) 4 (fun i => lets.length - i.1) ⟨0, by omega⟩ ?_ ?_
  ·exact (Wk.zeX (by simp [hn, zdj, zb3, kOb, zdk] <;> grind))
  rintro ⟨i, hi⟩;simp;by_cases hil : i < lets.length
  case pos =>
   have hx : lets[i]? = some lets[i] := List.getElem?_eq_getElem hil;have hsl := zff (lets := lets) (n := i) (by omega);have h5 := zdh lets (zdj lets i) (.sl []) i (by omega) (by omega) (by omega) 12 _ (r3 _ (List.mem_of_getElem? hx));have hsucc : zdj lets (i + 1) = zdj lets i ++ [shareS (nmS lets (zdj lets i) i) (lets[i]).body] := by
    rw [zdj, hx];simp only;rw [show nmS lets (zdj lets i) i = sF (mOf [] (lets.take i)) from funext fun s => zmo (by omega) (Nat.le_refl _) s]
   have hp := zhm (zdj lets (i + 1));have hss : zb3 (zdj lets (i + 1)) = zb3 (zdj lets (i + 1)) := rfl
   conv at hss => rhs; rw [hsucc]
   rw [hsucc] at hp;generalize shareS (nmS lets (zdj lets i) i) (lets[i]).body = b at *;generalize lets[i] = l at *;have hb1 := zeM (zdj lets i);have hb2 := zi1 (zdj lets i);rw [hsl] at hb2;have hb3 : (zb3 (zdj lets i)).length = i := by simp [zb3, hsl]
   have hb4 := zi2 (zdj lets i);have hb5 : zb3 (zdj lets i ++ [b]) = zb3 (zdj lets i) ++ [[.u (.bool b)]] := by simp [zb3]
   rw [hb5] at hp hss;clear hsucc hb5;generalize zb3 (zdj lets i) = R at *;simp only [zcF, zaz, zaA] at h5
   repeat' (first
  | (refine Cnd.of (fun hc => ?_) (fun hc => ?_) <;> (try (exfalso; omega)) <;> (try simp [hx, hb1, hb2, hb3, hb4, kOb, zdk]))
  | (refine zaf rfl ?_; simp [hx, hb1, hb2, hb3, hb4, kOb, zdk])
  | (refine And.intro (by omega) ?_)
  | (refine ⟨hC _ (by kernel_rfl), hk _ (zel 8 _ _ _ ?_)⟩; clear hC hk C k; simp [hx, hb1, hb2, hb3, hb4, kOb, zdk])
  | (refine zeW rfl (by kernel_rfl) (by first | (simp [hn]; done) | (simp [hn]; omega) | fail) fun C k hC hk => ?_; simp [hx, hb1, hb2, hb3, hb4, kOb, zdk])
  | (refine zc7 rfl ?_; simp [hx, hb1, hb2, hb3, hb4, kOb, zdk])
  | (refine zdN rfl ?_; simp [hx, hb1, hb2, hb3, hb4, kOb, zdk])
  | (refine CallV.f2 rfl (h5) (by first | simp [hx, hb1, hb2, hb3, hb4, kOb, zdk] <;> rfl | fail) ?_; simp [hx, hb1, hb2, hb3, hb4, kOb, zdk])
  | fail)
   refine LoopW.next ⟨i + 1, by omega⟩ (by simp; omega) ?_
   exact (Wk.ren ((fun j => if j = 2 then 6 else j)) rfl (by first | (simp [hn]; done) | (intro i hi; rw [hn] at hi; constructor <;> (try simp) <;> (try (intro _)) <;> omega)) (by simp [zfK, St.lp, zaS, zaa, getK, zac, zad, D.under, D.le, D.ren, hss, hp, kOb, zdk] <;> (try (intros; simp_all; done)) <;> (try omega)) (by simp [wkR, St.lp, zaa, getK, zac, zad, obR, leU, zbe, zaF, Ob.under, D.under, D.le, D.ren, hss, hp, kOb, zdk] <;> (try (intros; simp_all; done)) <;> (try omega)) (by simp [hss, hp, kOb, zdk]))
  obtain rfl : i = lets.length := by omega
  refine zn9 _ (Wk.frz (e := 4) (sz := 1) 2 [1] (us := (zdj lets lets.length).map fun b => [U.bool b]) (by simp [zaa]) (zeM _)) ?_;simp [St.frz, St.frzS, frzS, fv, zbI, zaM, del, hL, htk]
  repeat' (first
  | (refine zaf rfl ?_; simp [kOb, cOb, zaz, zaA, e1, e2, e3])
  | (refine CallP.f2 rfl (a2) (by first | simp [kOb, cOb, zaz, zaA, e1, e2, e3] <;> rfl | fail) ?_; simp [kOb, cOb, zaz, zaA, e1, e2, e3])
  | (refine CallP.okL (a1) (by first | (simp [kOb, cOb, zaz, zaA, e1, e2, e3, zaa, getK, zab, zac, zad, zah, del]; done) | fail) (by rfl) (by first | assumption | (simp; done) | fail) (by rfl) (by simp) ?_; (try simp [kOb, cOb, zaz, zaA, e1, e2, e3, zdt, del]))
  | (refine CallP.okL (a3) (by first | (simp [kOb, cOb, zaz, zaA, e1, e2, e3, zaa, getK, zab, zac, zad, zah, del]; done) | fail) (by rfl) (by first | assumption | (simp; done) | fail) (by rfl) (by simp) ?_; (try simp [kOb, cOb, zaz, zaA, e1, e2, e3, zdt, del]))
  | fail)
  refine EndW.wk _ (Wk.frz (e := 44) (sz := 3) 5 [1] (us := (L ++ [⟨14, 0, []⟩] : Code).map fun i => [U.int .i64 i.op, .int .i64 i.a, .str i.s]) (rows := zdk (L ++ [⟨14, 0, []⟩])) (by simp [zaa, zdk]) g1) ?_;simp [St.frz, St.frzS, frzS, fv, zbI, zaM, del];refine EndW.norm (EndW.here ?_)
  (refine EndOK.val (.inr rfl) ?_; simp [Tryz.results12])
end Go.Proofs.YtkdhmbhbbciedaaGreatDoor
namespace Go.Proofs.YtkdhmbhbbciedaaGreatDoor
open Go Go.VL Go.Shelf Go.RowKit
attribute [local simp] HS zaY zcB zbz evPure opd uOf zal St.put St.at getK binD binI binS binB nilD aggD zeS zfd lookD lookR zbE rangeS Go.VL.nextD Go.VL.nextS zbJ zfk zfe zeu zb7 mkV zaZ zcH zaL za1 mapEff zdw zek Key.kk shiftI arith unD convD zcP loadD cellsAt fieldAddrD fieldD indexAddrD indexSlD arrAddr indexD sliceD cutD lenD minmaxD nilCheckD buildD fillD zbn zcC zd1 setAll zcx zdZ zbD zeO zbC St.add zaj za6 rowsOf zcI zca zad zac zaa zaQ zcs zaG entry za2 za3 valD zbK zcq zeL zcD zcE zbp zbo zag zaB za0 delAll effD St.effS zb4 zaD zas zb5 zaE zau zbl zat zan zbm zb2 zaW zbj zaJ zbi zah mkD zbd za4 zbb zag zbN D.ids Op.operands Call.operands za5 makeIfD makeFuncD typeAssertD zfc zcL zcM zeY zbG IntKind.bits zbQ zam List.take_of_length_le List.range_succ zci zbx zcj zcd za7 zbq zbs zce zbu zaP zbt zbr zfJ zbw zcg zaH zav zch zaI zax zbv zaw zaq zcm zcn zfH zab frzN frz1 zaO zaN St.frz St.frzS frzS fv zbI zbV zcb zaM zay zao frz zcc zbH zbS zbT zaX St.norm St.lp St.only zaS wkE wkO wkU Ob.under D.under zai zap zck zby zcl h4s zdG zar zaV List.zipIdx_cons List.zipIdx_nil List.map_cons List.map_nil Nat.zero_add
attribute [local irreducible] V G H HD HD2 HD4 zgA RetX zaT Eff CallP CallV EndOK Fun Ret FinOK LoopI LoopW EndW HR vs2 RN Cnd H4
attribute [local simp] zs8 zt3 zl6 zt4 zl7
theorem zqk (s : W8) (hl : s.length <= 900000) : RetX Tryz.prog 14 [.u (.str s)] [] 0
  (fun r o n => match r with | .val d => zaV d = true /\ d = .tup [.u (Vm.inss (zjh s).1), .u (.int .i64 (zjh s).2)] | .pan _ => False) := by
 have htl := zp9 s;have h1 := zqa s (by omega);have h2 := zkb (zft s) 10;have hca : zae Tryz.prog 41 = true := by kernel_rfl
 have hLl : (zdO s).length = (zbF 10 (zft s)).length := by simp [zdO]
 have hLn := ziB (c := 10) (zft s);have hL : ∀ (i : Nat) (t : W8), (zbF 10 (zft s))[i]? = some t -> (zdO s)[i]? = some (zlK t) /\ t.length <= 900000 := fun i t h => ⟨by simp [zdO, h], by
  have := ziC (c := 10) (zft s) t (List.mem_of_getElem? h);omega⟩
 have h3 := zew (zdO s) (by omega);have h4 := zmt (zdO s) (by omega);have hrb : zjh s = if zct (zdO s) = true /\ ze4 (zdO s) = s then (zdO s, 0) else ([], 2) := by
  unfold zjh ze4;by_cases hr : zct (zdO s) = true
  ·simp [hr]
  ·simp [hr]
 have hit := zm6 10 (zft s) (by omega);have e1 := zez;have e3 := zeG;rw [hrb];generalize zdO s = L at *;refine RetX.zrz Tryz.func14 Tryz.ntmps14 rfl (by simp) fun Γ hn hdfr hpan hesc => ?_; simp only [entry, List.zipIdx_cons, List.zipIdx_nil, List.map_cons, List.map_nil, Nat.zero_add];rw [znG]
 repeat' (first
  | (refine zf7 rfl ?_; simp)
  | fail)
 refine zs0 ?_
 repeat' (first
  | (refine zf7 rfl ?_; simp [hca])
  | (refine CallP.f2 rfl (h1) (by first | simp [hca] <;> rfl | fail) ?_; simp [hca])
  | (refine CallP.zvj (h2) (by rfl) (by first | assumption | simp) (by rfl) (by simp) ?_; rintro d o n' hn' ⟨rfl, rfl, rfl⟩; (try simp at hn'); (try simp [hca]))
  | fail)
 refine RangeOK.wk _ (Wk.ownC 0 _ 0 44 3 (by decide) rfl rfl) ?_;simp [St.ownC];refine RangeOK.of (zkl L) (fun i => i + 5) hesc hdfr rfl (by kernel_rfl) hit ?_ ?_ rfl (by simp) (by simp) ?_ ?_
 ·intro i j ob h;simp only [zio, zaa, getK] at h;simp only [zkl, zaa, getK]
  grind
 ·intro i;simp only [zio, zkl, zaa, getK, List.cons_append, List.nil_append, zdk, List.take_zero, List.map_nil]
  grind
 ·intro i x hx Γ1 r hn hpan1;rw [List.getElem?_map] at hx;obtain ⟨t, ht, rfl⟩ := Option.map_eq_some_iff.1 hx;obtain ⟨hLi, htl2⟩ := hL i t ht;have htk : zdk (L.take (i + 1)) = zdk (L.take i) ++ [[.u (.int .i64 (zlK t).op), .u (.int .i64 (zlK t).a), .u (.str (zlK t).s)]] := by
   rw [List.take_add_one, hLi];simp [zdk]
  have hil : (zdk (L.take i)).length = i := by
   have := (List.getElem?_eq_some_iff.1 hLi).1;rw [zeG, List.length_take];omega
  have hib : i <= 900000 := by
   have := (List.getElem?_eq_some_iff.1 ht).1;omega
  have hlr := zhE (L.take i);have hpu := zbk (L.take i);clear hrb h1 h2 h3 h4 hit hesc hpan;generalize hRO : zkl L (i + 1) = RO;rw [zkl, htk] at hRO;rw [show zkl L i = [(0, .box [.vec (i + 4) i]), (i + 4, .vec 44 3 (zdk (L.take i)))] from rfl];generalize zdk (L.take i) = R at *;refine zr2 hpan1 (by rfl) ?_;simp;intro Γ2 hn hpan2;have hcu := zsC t 32 (by omega);have hgw := ziR;have hpa : zrZ Tryz.prog 76 = some 15 := by kernel_rfl
  have hwl : wordsL.length = 15 := rfl;obtain ⟨w, r, b, hcu2, hins, hrl⟩ := zsD t;rw [hcu2] at hcu;have hix := ziP wordsL w;have hat := zrm r (by omega);simp only [zn7] at hix;refine zr2 hpan2 (by rfl) ?_;by_cases h1 : zjx wordsL w 0 = 1
  ·rw [if_pos h1] at hins;rw [hins] at hRO;rw [h1] at hix;clear hins hcu2 htk hL e1 e3;simp
   repeat' (first
  | (refine And.intro (by omega) ?_)
  | ((first | refine CallP.f2 rfl (hcu) (by first | simp [hgw, hpa, hwl, hil] <;> rfl | fail) ?_ | refine CallP.f2 rfl (hix) (by first | simp [hgw, hpa, hwl, hil] <;> rfl | fail) ?_ | fail); simp [hgw, hpa, hwl, hil])
  | fail)
   refine ⟨{ n := 49, env := [], obs := RO, next := i + 1 + 5 }, ?_, rfl, rfl⟩;rw [<- hRO];exact (Wk.ren ((fun x => if x = i + 5 then i + 5 + 1 + 1 else x)) rfl (by first | (simp [hn]; done) | (intro i hi; rw [hn] at hi; constructor <;> (try simp) <;> (try (intro _)) <;> omega)) (by simp [zfK, St.lp, zaS, zaa, getK, zac, zad, D.under, D.le, D.ren, hpu, hil, hlr] <;> (try (intros; simp_all; done)) <;> (try omega)) (by simp [wkR, St.lp, zaa, getK, zac, zad, obR, leU, zbe, zaF, Ob.under, D.under, D.le, D.ren, hpu, hil, hlr] <;> (try (intros; simp_all; done)) <;> (try omega)) (by simp [hpu, hil, hlr]))
  ·rw [if_neg h1] at hins;rw [hins] at hRO;clear hins hcu2 htk hL e1 e3;generalize zjx wordsL w 0 = op at *;generalize zk9 r = av at *;simp
   repeat' (first
  | (refine CallP.fun_ (hat) (by first | rfl | fail) (by first | assumption | (simp; done) | fail) (by first | (simp; done) | (simp; rfl) | fail) (by first | (simp; done) | fail) (fun d hd => ?_); obtain ⟨b', rfl⟩ := hd; (try simp))
  | (refine And.intro (by omega) ?_)
  | ((first | refine CallP.f2 rfl (hcu) (by first | simp [hgw, hpa, hwl, hil, h1] <;> rfl | fail) ?_ | refine CallP.f2 rfl (hix) (by first | simp [hgw, hpa, hwl, hil, h1] <;> rfl | fail) ?_ | fail); simp [hgw, hpa, hwl, hil, h1])
  | fail)
   refine ⟨{ n := 49, env := [], obs := RO, next := i + 1 + 5 }, ?_, rfl, rfl⟩;rw [<- hRO];exact (Wk.ren ((fun x => if x = i + 5 then i + 5 + 1 + 1 else x)) rfl (by first | (simp [hn]; done) | (intro i hi; rw [hn] at hi; constructor <;> (try simp) <;> (try (intro _)) <;> omega)) (by simp [zfK, St.lp, zaS, zaa, getK, zac, zad, D.under, D.le, D.ren, hpu, hil, hlr] <;> (try (intros; simp_all; done)) <;> (try omega)) (by simp [wkR, St.lp, zaa, getK, zac, zad, obR, leU, zbe, zaF, Ob.under, D.under, D.le, D.ren, hpu, hil, hlr] <;> (try (intros; simp_all; done)) <;> (try omega)) (by simp [hpu, hil, hlr]))
 ·have hn00 : Γ.base.n0 = 0 := hn;intro Γ' hn hpan2;have hnL : (List.map (fun t => D.u (U.str t)) (zbF 10 (zft s))).length = L.length := by simp [hLl]
  rw [hnL] at hn ⊢;clear hpan hesc hit h1 h2 hL;have hR : zkl L L.length = [(0, .box [.vec (L.length + 4) L.length]), (L.length + 4, .vec 44 3 (zdk L))] := by simp [zkl]
  rw [hR];have hpR := zbk L;have hlR := zhE L;have hLs : L.length <= 900001 := by omega
  have htk : List.take L.length (L.map fun i => [U.int .i64 i.op, .int .i64 i.a, .str i.s]) = L.map fun i => [U.int .i64 i.op, .int .i64 i.a, .str i.s] := List.take_of_length_le (by simp);have g1 := e1 L;refine zn9 { n := 49, env := [(4, .ptr 0 0), (0, .u (.str s))], obs := [(0, .box [.vec (L.length + 4) L.length]), (L.length + 4, .vec 44 3 (zdk L))], next := L.length + 5 } (Wk.zeX (by simp [hn, zio] <;> grind)) ?_;refine zn9 _ (Wk.frz (e := 44) (sz := 3) (L.length + 4) [0] (us := L.map fun i => [U.int .i64 i.op, .int .i64 i.a, .str i.s]) (rows := zdk L) (by simp [zaa, getK]) g1) ?_;simp [St.frz, St.frzS, frzS, fv, zbI, zaM, del, htk];simp only [Vm.inss] at h3 h4 ⊢;cases hri : zct L with
  | false =>
   rw [hri] at h3
   repeat' (first
  | (refine zf7 rfl ?_; simp)
  | ((first | refine CallP.f2 rfl (h3) (by first | simp <;> rfl | fail) ?_ | refine CallP.f2 rfl (h4) (by first | simp <;> rfl | fail) ?_ | fail); simp)
  | fail)
   refine ⟨rfl, ?_⟩;refine EndW.norm (EndW.here ?_)
   (refine EndOK.fin (.inr rfl) ?_); simp [zdG, zar, Tryz.results14]; refine FinOK.here (by simp [hn00]) ?_; simp [zaV]
  | true =>
   rw [hri] at h3;by_cases hli : ze4 L = s
   ·rw [hli] at h4
    repeat' (first
  | (refine zf7 rfl ?_; simp)
  | ((first | refine CallP.f2 rfl (h3) (by first | simp <;> rfl | fail) ?_ | refine CallP.f2 rfl (h4) (by first | simp <;> rfl | fail) ?_ | fail); simp)
  | fail)
    refine ⟨rfl, ?_⟩;refine EndW.norm (EndW.here ?_)
    (refine EndOK.fin (.inr rfl) ?_); simp [zdG, zar, Tryz.results14]; refine FinOK.here (by simp [hn00]) ?_; simp [zaV]
    rw [if_pos hli];exact ⟨rfl, rfl⟩
   ·generalize ze4 L = T at *
    repeat' (first
  | (refine zf7 rfl ?_; simp [hli])
  | ((first | refine CallP.f2 rfl (h3) (by first | simp [hli] <;> rfl | fail) ?_ | refine CallP.f2 rfl (h4) (by first | simp [hli] <;> rfl | fail) ?_ | fail); simp [hli])
  | fail)
    refine ⟨rfl, ?_⟩;refine EndW.norm (EndW.here ?_)
    (refine EndOK.fin (.inr rfl) ?_); simp [zdG, zar, Tryz.results14]; refine FinOK.here (by simp [hn00]) ?_; simp [zaV]
theorem zmm (s : W8) (hl : s.length <= 900000) : Fun Tryz.prog 14 [.u (.str s)] (· = .tup [.u (Vm.inss (zjh s).1), .u (.int .i64 (zjh s).2)]) := by
 unfold Fun;exact (zqk s hl).ret (fun d o n h => h) (fun ch o n h => h.elim)
end Go.Proofs.YtkdhmbhbbciedaaGreatDoor
namespace Go.VL
open Go
theorem zt0 {P : Program} {Γ : Ctx} {c : Code} {s : St} {Q : Exit -> St -> Prop} {x j : Nat} {cells : List U} {rows : List (List U)} (hx : getK s.env x = some (.u (.agg cells))) (hj : cells[j]? = some (.sl rows)) (h : rows.length <= 9223372036854775807 -> V P Γ c s Q) : V P Γ c s Q :=
 zpP (fun K a w hs => by
  have hr := (hs.getK hx).2;obtain ⟨vs, hl, _, hr⟩ := zd9 hr;have hr := hr j _ hj;generalize vs.getD j undef = v at hr;cases hr with
  | slE => simp
  | sl _ b o sz c f hc hcx => unfold maxLen at hcx; omega) h
end Go.VL
namespace Go.Proofs.YtkdhmbhbbciedaaGreatDoor
open Go Go.VL
attribute [local simp] zaY zcB zbz evPure opd uOf zal St.put St.at getK binD binI binS binB nilD aggD zeS zfd lookD lookR zbE rangeS Go.VL.nextD Go.VL.nextS zbJ zfk zfe zeu zb7 mkV zaZ zcH zaL za1 mapEff zdw zek Key.kk shiftI arith unD convD zcP loadD cellsAt fieldAddrD fieldD indexAddrD indexSlD arrAddr indexD sliceD cutD lenD minmaxD nilCheckD buildD fillD zbn zcC zd1 setAll zcx zdZ zbD zeO zbC St.add zaj za6 rowsOf zcI zca zad zac zaa zaQ zcs zaG entry za2 za3 valD zbK zcq zeL zcD zcE zbp zbo zag zaB za0 delAll effD St.effS zb4 zaD zas zb5 zaE zau zbl zat zan zbm zb2 zaW zbj zaJ zbi zah mkD zbd za4 zbb zag zbN D.ids Op.operands Call.operands za5 makeIfD makeFuncD typeAssertD zfc zcL zcM zeY zbG IntKind.bits zbQ zam List.take_of_length_le List.range_succ zci zbx zcj zcd za7 zbq zbs zce zbu zaP zbt zbr zfJ zbw zcg zaH zav zch zaI zax zbv zaw zaq zcm zcn zfH zab frzN frz1 zaO zaN St.frz St.frzS frzS fv zbI zbV zcb zaM zay zao frz zcc zbH zbS zbT zaX St.norm St.lp St.only zaS wkE wkO wkU Ob.under D.under zai zap zck zby zcl h4s zdG zar zaV List.zipIdx_cons List.zipIdx_nil List.map_cons List.map_nil Nat.zero_add
attribute [local irreducible] V G H HD HD2 zaT Eff CallP CallV EndOK Fun Ret FinOK LoopI LoopW EndW HR vs2 RN Cnd H4
theorem zoy {l : List Tok} (hl : TokOK l) : ∀ f, zgS l f /\ zs9 l f /\ zi9 l f := by
 intro f
 induction f using Nat.strongRecOn with
 | _ f ih =>
  cases f with
  | zero => exact ⟨fun p form i nx _ _ h => by omega, fun p form i nx _ _ h => by omega, fun p i nx _ _ h => by omega⟩
  | succ f =>
   obtain ⟨h1, h2, h3⟩ := ih f (by omega);exact ⟨zqR hl (fun g hg => (ih g (by omega)).1) h2, zlx hl h1 h3, zkn hl h1⟩
def Exp.lev : Exp -> Int
 | .mk _ _ _ _ args => (args.map fun e => e.lev).foldl max 0 + 1
theorem Exp.zh2 (e : Exp) : e.lev = (e.args.map Exp.lev).foldl max 0 + 1 := by
 cases e with
 | mk op n u s args => rw [Exp.lev]; rfl
theorem zcV : ∀ (l : List Int) (a : Int), a <= l.foldl max a /\ ∀ x ∈ l, x <= l.foldl max a
 | [], a => ⟨by simp, fun x h => by simp at h⟩
 | b :: l, a => by
  obtain ⟨h1, h2⟩ := zcV l (max a b);refine ⟨by simp only [List.foldl_cons]; omega, fun x hx => ?_⟩;rcases List.mem_cons.1 hx with rfl | hx
  ·simp only [List.foldl_cons]; omega
  ·exact h2 x hx
theorem Exp.lev_pos (e : Exp) : 1 <= e.lev := by
 rw [Exp.zh2];have := (zcV (e.args.map Exp.lev) 0).1;omega
theorem Exp.zmb {e x : Exp} (h : x ∈ e.args) : SizeOf.sizeOf x < SizeOf.sizeOf e := by
 cases e with
 | mk op n u s args =>
  have := List.sizeOf_lt_of_mem h;simp only [Exp.args] at this;simp only [Exp.mk.sizeOf_spec];omega
theorem znr : ∀ (n : Nat) (e : Exp), SizeOf.sizeOf e <= n -> e.lev <= 1000000000 -> Fun Tryz.prog 109 [.u (.agg e.row)] (· = .u (.int .i64 e.lev)) := by
 intro n
 induction n with
 | zero =>
  intro e h;cases e with
  | mk op n u s args => simp only [Exp.mk.sizeOf_spec] at h; omega
 | succ n ih =>
  intro e hs he;have hx : ∀ x ∈ e.args, Fun Tryz.prog 109 [.u (.agg [.int .i64 x.op, .int .i64 x.n, .int .i64 x.unit, .str x.s, .sl (x.args.map Exp.row)])] (· = .u (.int .i64 x.lev)) := fun x hx => by
   rw [<- Exp.row_eq];refine ih x (by have := Exp.zmb hx; omega) ?_;have := (zcV (e.args.map Exp.lev) 0).2 x.lev (List.mem_map.2 ⟨x, hx, rfl⟩);rw [Exp.zh2] at he;omega
  have hlb : ∀ k, ((e.args.map Exp.lev).take k).foldl max 0 <= 1000000000 := fun k => by
   rw [<- List.map_take];rw [Exp.zh2] at he;have h2 : (e.args.map Exp.lev).foldl max 0 = (e.args.drop k |>.map Exp.lev).foldl max ((e.args.take k |>.map Exp.lev).foldl max 0) := by
    rw [<- List.foldl_append, <- List.map_append, List.take_append_drop]
   have := (zcV (e.args.drop k |>.map Exp.lev) ((e.args.take k |>.map Exp.lev).foldl max 0)).1;omega
  rw [Exp.row_eq, Exp.zh2];generalize hA : e.args = A at *;rw [Exp.zh2, hA] at he;refine Fun.run Tryz.func109 Tryz.ntmps109 Tryz.results109 rfl (by simp) fun Γ hn => ?_; simp only [entry, List.zipIdx_cons, List.zipIdx_nil, List.map_cons, List.map_nil, Nat.zero_add];refine zt0 (x := 0) (j := 4) rfl rfl fun hl => ?_;simp at hl
  repeat' (first
  | (refine zaf rfl ?_; simp)
  | fail)
  refine zdD (α := { k : Nat // k <= A.length }) [0, 1, 2, 7, 8] (fun k => [(9, .u (.int .i64 k.1)), (3, .u (.int .i64 (((A.map Exp.lev).take k.1).foldl max 0)))]) (fun k => A.length - k.1) ⟨0, by omega⟩ ?_ ?_
  ·exact (Wk.env rfl rfl rfl (by simp [wkE, St.lp, zaS, zaa, getK] <;> (try (intros; simp_all; done)) <;> (try (intros; omega)) <;> (try grind)))
  rintro ⟨k, hk⟩;simp;rcases hy : A[k]? with _ | y
  ·have hge : A.length <= k := by simpa using hy
   have hb := hlb k;rw [List.take_of_length_le (by simpa using hge : (A.map Exp.lev).length <= k)] at hb ⊢;have hb0 := (zcV (A.map Exp.lev) 0).1;generalize (A.map Exp.lev).foldl max 0 = M at *
   repeat' (first
  | (refine Cnd.of (fun hc => ?_) (fun hc => ?_) <;> (try (exfalso; omega)) <;> (try simp [hy]))
  | (refine zaf rfl ?_; simp [hy])
  | (refine And.intro (by omega) ?_)
  | fail)
   (refine Pst.of ?_; simp)
  ·have hlt : k < A.length := (List.getElem?_eq_some_iff.1 hy).1;have hfn := hx y (List.mem_of_getElem? hy);have ht : ((A.map Exp.lev).take (k + 1)).foldl max 0 = max (((A.map Exp.lev).take k).foldl max 0) y.lev := by
    rw [List.take_add_one, List.getElem?_map, hy];simp
   have hb := hlb (k + 1);rw [ht] at hb;have hb0 := (zcV ((A.map Exp.lev).take k) 0).1;generalize hM : ((A.map Exp.lev).take k).foldl max 0 = M at *;have hyp := y.lev_pos
   repeat' (first
  | (refine Cnd.of (fun hc => ?_) (fun hc => ?_) <;> (try (exfalso; omega)) <;> (try simp [hy, Exp.row_eq]))
  | (refine zaf rfl ?_; simp [hy, Exp.row_eq])
  | (refine And.intro (by omega) ?_)
  | (refine CallP.f2 rfl (hfn) (by first | simp [hy, Exp.row_eq] <;> rfl | fail) ?_; simp [hy, Exp.row_eq])
  | fail)
   refine LoopW.next ⟨k + 1, hlt⟩ (by show A.length - (k + 1) < A.length - k; omega) ?_
   exact (Wk.zeX (by simp [hn, ht] <;> grind))
end Go.Proofs.YtkdhmbhbbciedaaGreatDoor
namespace Go.Proofs.YtkdhmbhbbciedaaGreatDoor
open Go Go.VL
attribute [local simp] HS zaY zcB zbz evPure opd uOf zal St.put St.at getK binD binI binS binB nilD aggD zeS zfd lookD lookR zbE rangeS Go.VL.nextD Go.VL.nextS zbJ zfk zfe zeu zb7 mkV zaZ zcH zaL za1 mapEff zdw zek Key.kk shiftI arith unD convD zcP loadD cellsAt fieldAddrD fieldD indexAddrD indexSlD arrAddr indexD sliceD cutD lenD minmaxD nilCheckD buildD fillD zbn zcC zd1 setAll zcx zdZ zbD zeO zbC St.add zaj za6 rowsOf zcI zca zad zac zaa zaQ zcs zaG entry za2 za3 valD zbK zcq zeL zcD zcE zbp zbo zag zaB za0 delAll effD St.effS zb4 zaD zas zb5 zaE zau zbl zat zan zbm zb2 zaW zbj zaJ zbi zah mkD zbd za4 zbb zag zbN D.ids Op.operands Call.operands za5 makeIfD makeFuncD typeAssertD zfc zcL zcM zeY zbG IntKind.bits zbQ zam List.take_of_length_le List.range_succ zci zbx zcj zcd za7 zbq zbs zce zbu zaP zbt zbr zfJ zbw zcg zaH zav zch zaI zax zbv zaw zaq zcm zcn zfH zab frzN frz1 zaO zaN St.frz St.frzS frzS fv zbI zbV zcb zaM zay zao frz zcc zbH zbS zbT zaX St.norm St.lp St.only zaS wkE wkO wkU Ob.under D.under zai zap zck zby zcl h4s zdG zar zaV List.zipIdx_cons List.zipIdx_nil List.map_cons List.map_nil Nat.zero_add
attribute [local irreducible] V G H HD HD2 HD4 zgA RetX zaT Eff CallP CallV EndOK Fun Ret FinOK LoopI LoopW EndW HR vs2 RN Cnd H4
abbrev zkX : Ob := .box [.u (.int .i64 0), .u (.int .i64 0), .u (.int .i64 0), .u (.str []), .u .nil]
theorem zjl (i j q nx : Nat) (hi : i < nx) (hj : j < nx) (hq : q < nx) (hij : i ≠ j) (hiq : i ≠ q) (hjq : j ≠ q) (p e pos err : Int) (a b c : Int) (t : List UInt8) (g : U) :
  RetDf Tryz.prog 104 [.ptr i 0, .ptr j 0, .ptr q 0] [(i, .box [.u (.int .i64 p)]), (j, .box [.u (.int .i64 e)]), (q, .box [.u (.int .i64 a), .u (.int .i64 b), .u (.int .i64 c), .u (.str t), .u g])] nx (.panicking (chP pos err))
   (fun u o n => settle u = .returning /\ n = nx /\ o = [(i, .box [.u (.int .i64 pos)]), (j, .box [.u (.int .i64 err)]), (q, zkX)]) := by
 have hne := zbg hi;have hne2 := zbg hj;have hne3 := zbg hq;have hc0 := zlY i j nx hi hj hij p e pos err;refine RetDf.of_body Tryz.func104 rfl (by simp) (by simp) rfl fun Γ hn => ?_;simp [entry, znc, chP, Tryz.ntmps104];refine CallP.x2 hc0 (by simp [getK]) (by simp [getK, hij, Ne.symm hij]) hij rfl rfl (by simp) (by simp) (fun d o1 nx' hnx h => ?_) (fun ch o1 nx' hnx h => by cases h.1);obtain ⟨h1, rfl, h4⟩ := h;have h4 := h4.symm;subst h4;cases h1;simp [del, hij, Ne.symm hij, hiq, hjq, Ne.symm hiq, Ne.symm hjq]
 repeat' (first
  | (refine zaf rfl ?_; simp [hij, hiq, hjq])
  | fail)
 (refine ⟨by simp, { n := _, env := [], obs := [(i, .box [.u (.int .i64 pos)]), (j, .box [.u (.int .i64 err)]), (q, zkX)], next := nx }, (Wk.cut rfl (by simp [hn]) (by simp [wkO, zaa, getK, zab, zac, Ob.under, D.under, zai, zap, hi, hj, hq, hne, hne2, hne3, hij, hiq, hjq, Ne.symm hij, Ne.symm hiq, Ne.symm hjq]) (by simp [wkU, zaS, zaa, getK, D.under, hi, hj, hq, hne, hne2, hne3, hij, hiq, hjq, Ne.symm hij, Ne.symm hiq, Ne.symm hjq]) (by simp [wkE, zaS, zaa, getK, hi, hj, hq, hne, hne2, hne3, hij, hiq, hjq, Ne.symm hij, Ne.symm hiq, Ne.symm hjq])), by simp [hn], ?_⟩; try simp)
 all_goals rfl
theorem zoR {s : List UInt8} : ∀ (f p : Nat) (l : List Tok), zoS f s p = .ok l -> s.length < p + f -> p <= s.length ->
  (∀ (i : Nat) (t : Tok), l[i]? = some t -> t.kind ≠ 0 -> i + 1 < l.length) /\ l.length <= s.length - p + 1 /\ 0 < l.length
 | 0, p, l, _, h2, h3 => by omega
 | f + 1, p, l, h, h2, h3 => by
  rw [zoS] at h;have hle := zd6 zcG (s.drop p);rw [List.length_drop] at hle;split at h
  ·cases h;refine ⟨fun i t hi hk => ?_, by simp, by simp⟩;rcases i with _ | i
   ·simp at hi;subst hi;exact absurd rfl hk
   ·simp at hi
  ·rename_i c r hd;have hdl : (s.drop (p + zcY zcG (s.drop p))).length = r.length + 1 := by rw [hd]; rfl
   rw [List.length_drop] at hdl;split at h
   ·cases h
   ·rename_i t ht;obtain ⟨ht1, ht2⟩ := zgj ht;simp only [List.length_cons] at ht2;split at h
    ·cases h
    ·rename_i l' hl';cases h;obtain ⟨g1, g2, g3⟩ := zoR f _ l' hl' (by omega) (by omega);refine ⟨fun i t' hi hk => ?_, by simp only [List.length_cons]; omega, by simp⟩;rcases i with _ | i
     ·simp; exact g3
     ·simp only [List.getElem?_cons_succ] at hi;have := g1 i t' hi hk;simp only [List.length_cons];omega
theorem zsl {s : List UInt8} {l : List Tok} (h : zoQ s = .ok l) : TokOK l /\ l.length <= 2001 /\ 0 < l.length := by
 unfold zoQ at h;split at h
 ·cases h
 ·obtain ⟨g1, g2, g3⟩ := zoR _ _ _ h (by omega) (by omega);exact ⟨⟨g1, by omega⟩, by omega, g3⟩
theorem Exp.zll {op n u : Int} {s : List UInt8} {args : List Exp} {B : Int} (h : ∀ x ∈ args, x.lev <= B) (h0 : 0 <= B) : (Exp.mk op n u s args).lev <= B + 1 := by
 rw [Exp.zh2];simp only [Exp.args];have : ∀ (l : List Int) (a : Int), a <= B -> (∀ x ∈ l, x <= B) -> l.foldl max a <= B := by
  intro l
  induction l with
  | nil => intro a ha _; exact ha
  | cons b l ih => intro a ha hl; exact ih _ (by have := hl b (by simp); omega) fun x hx => hl x (by simp [hx])
 have := this (args.map Exp.lev) 0 h0 (fun x hx => by obtain ⟨y, hy, rfl⟩ := List.mem_map.1 hx; exact h y hy);omega
theorem zku {l : List Tok} : ∀ (f : Nat),
  (∀ p form e q, ze9 l f p form = .ok e q -> e.lev <= f * f + 1) /\
  (∀ form e own p e' q, zfq l f form e own p = .ok e' q -> e'.lev <= max e.lev (f * f + 1) + f) /\
  (∀ p form e q, zbX l f p form = .ok e q -> e.1.lev <= f * f + 1) /\
  (∀ p e q, zbc l f p = .ok e q -> e.lev <= f * f + 1)
 | 0 => ⟨fun _ _ _ _ h => by simp [ze9] at h, fun _ _ _ _ _ _ h => by simp [zfq] at h, fun _ _ _ _ h => by simp [zbX] at h, fun _ _ _ h => by simp [zbc] at h⟩
 | f + 1 => by
  obtain ⟨he, hlo, hpr, hpm⟩ := zku f;have hsq : ((f + 1 : Nat) : Int) * ((f + 1 : Nat) : Int) = (f : Int) * f + 2 * f + 1 := by
   rw [show ((f + 1 : Nat) : Int) = (f : Int) + 1 by omega, Int.add_mul, Int.mul_add]; omega
  rw [hsq];have h0 : (0 : Int) <= (f : Int) * f := Int.mul_nonneg (by omega) (by omega);generalize hF : (f : Int) * f = F at *;refine ⟨fun p form e q h => ?_, fun form e own p e' q h => ?_, fun p form e q h => ?_, fun p e q h => ?_⟩
  ·rw [ze9] at h;obtain ⟨a, r, h1, h2⟩ := PR.zaR h;have g1 := hpr _ _ _ _ h1;have g2 := hlo _ _ _ _ _ _ h2;omega
  ·rw [zfq] at h;split at h
   ·cases h; omega
   ·split at h
    ·cases h; omega
    ·obtain ⟨a, r, h1, h2⟩ := PR.zaR h;have g1 := he _ _ _ _ h1;have g2 := hlo _ _ _ _ _ _ h2;rename_i x _ _;have g3 := Exp.zll (op := x.op) (n := 0) (u := 0) (s := []) (args := [e, a]) (B := max e.lev (F + 1)) (by
      intro y hy;simp only [List.mem_cons, List.not_mem_nil, or_false] at hy;rcases hy with rfl | rfl <;> omega) (by omega)
     omega
  ·rw [zbX] at h;split at h
   ·obtain ⟨a, r, h1, h⟩ := PR.zaR h;obtain ⟨_, r2, h2, h⟩ := PR.zaR h;obtain ⟨b, r3, h3, h⟩ := PR.zaR h;obtain ⟨_, r4, h4, h⟩ := PR.zaR h;obtain ⟨c, r5, h5, h⟩ := PR.zaR h;cases h;have g1 := he _ _ _ _ h1;have g3 := he _ _ _ _ h3;have g5 := he _ _ _ _ h5;have := Exp.zll (op := 13) (n := 0) (u := 0) (s := []) (args := [a, b, c]) (B := F + 1) (by
     intro y hy;simp only [List.mem_cons, List.not_mem_nil, or_false] at hy;rcases hy with rfl | rfl | rfl <;> omega) (by omega)
    simp only;omega
   ·split at h
    ·obtain ⟨a, r, h1, h⟩ := PR.zaR h;cases h;have g1 := he _ _ _ _ h1;have := Exp.zll (op := 12) (n := 0) (u := 0) (s := []) (args := [a]) (B := F + 1) (by
      intro y hy;simp only [List.mem_cons, List.not_mem_nil, or_false] at hy;rcases hy with rfl; omega) (by omega)
     simp only;omega
    ·obtain ⟨a, r, h1, h⟩ := PR.zaR h;cases h;have g1 := hpm _ _ _ h1;simp only;omega
  ·have leaf : ∀ (op n u : Int) (s : List UInt8), (Exp.mk op n u s []).lev <= F + 2 * f + 1 + 1 := fun op n u s => by
    have := Exp.zll (op := op) (n := n) (u := u) (s := s) (args := []) (B := 0) (by simp) (by omega);omega
   rw [zbc] at h;split at h
   ·cases h
   ·split at h
    ·obtain ⟨a, r, h1, h⟩ := PR.zaR h;cases h; exact leaf ..
    split at h
    ·cases h; exact leaf ..
    split at h
    ·cases h; exact leaf ..
    split at h
    ·obtain ⟨_, r2, h2, h⟩ := PR.zaR h;obtain ⟨a, r3, h3, h⟩ := PR.zaR h;obtain ⟨_, r4, h4, h⟩ := PR.zaR h;obtain ⟨b, r5, h5, h⟩ := PR.zaR h;obtain ⟨_, r6, h6, h⟩ := PR.zaR h;have g3 := he _ _ _ _ h3;have g5 := he _ _ _ _ h5;have := Exp.zll (op := if isB l p [109, 97, 120] = true then 7 else 6) (n := 0) (u := 0) (s := []) (args := [a, b]) (B := F + 1) (by
      intro y hy;simp only [List.mem_cons, List.not_mem_nil, or_false] at hy;rcases hy with rfl | rfl <;> omega) (by omega)
     cases h;omega
    split at h
    ·obtain ⟨a, r3, h3, h⟩ := PR.zaR h;obtain ⟨_, r4, h4, h⟩ := PR.zaR h;cases h;have g3 := he _ _ _ _ h3;omega
    split at h
    ·cases h; exact leaf ..
    ·cases h
def zmx (l : List Tok) (p : Nat) : Int := match l[p]? with | some t => t.kind | none => 0
def zgO : Exp := .mk 0 0 0 [] []
def zgE (s : List UInt8) : Exp × Int × Int := match zoQ s with
 | .error (p, e) => (zgO, p, e)
 | .ok l => match ze9 l (4 * l.length + 3) 0 0 with
  | .stop pos e => (zgO, pos, e)
  | .ok y q => if zmx l q ≠ 0 then (zgO, zks l q, 12) else if 12 < y.lev then (zgO, zks l q, 6) else (y, 0, 0)
end Go.Proofs.YtkdhmbhbbciedaaGreatDoor
