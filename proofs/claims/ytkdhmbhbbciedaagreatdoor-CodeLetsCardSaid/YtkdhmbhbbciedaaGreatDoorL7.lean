import Derived.Test.YtkdhmbhbbciedaaGreatDoorL6
set_option linter.all false
set_option maxRecDepth 100000
set_option maxHeartbeats 8000000
namespace Go.Proofs.YtkdhmbhbbciedaaGreatDoor
open Go Go.VL
attribute [local simp] HS zaY zcB zbz evPure opd uOf zal St.put St.at getK binD binI binS binB nilD aggD zeS zfd lookD lookR zbE rangeS Go.VL.nextD Go.VL.nextS zbJ zfk zfe zeu zb7 mkV zaZ zcH zaL za1 mapEff zdw zek Key.kk shiftI arith unD convD zcP loadD cellsAt fieldAddrD fieldD indexAddrD indexSlD arrAddr indexD sliceD cutD lenD minmaxD nilCheckD buildD fillD zbn zcC zd1 setAll zcx zdZ zbD zeO zbC St.add zaj za6 rowsOf zcI zca zad zac zaa zaQ zcs zaG entry za2 za3 valD zbK zcq zeL zcD zcE zbp zbo zag zaB za0 delAll effD St.effS zb4 zaD zas zb5 zaE zau zbl zat zan zbm zb2 zaW zbj zaJ zbi zah mkD zbd za4 zbb zag zbN D.ids Op.operands Call.operands za5 makeIfD makeFuncD typeAssertD zfc zcL zcM zeY zbG IntKind.bits zbQ zam List.take_of_length_le List.range_succ zci zbx zcj zcd za7 zbq zbs zce zbu zaP zbt zbr zfJ zbw zcg zaH zav zch zaI zax zbv zaw zaq zcm zcn zfH zab frzN frz1 zaO zaN St.frz St.frzS frzS fv zbI zbV zcb zaM zay zao frz zcc zbH zbS zbT zaX St.norm St.lp St.only zaS wkE wkO wkU Ob.under D.under zai zap zck zby zcl h4s zdG zar zaV List.zipIdx_cons List.zipIdx_nil List.map_cons List.map_nil Nat.zero_add
attribute [local irreducible] V G H HD HD2 HD4 zgA RetX zaT Eff CallP CallV EndOK Fun Ret FinOK LoopI LoopW EndW HR vs2 RN Cnd H4
theorem zoG {c : UInt8} {r : List UInt8} {e : Int} (h : zh9 (c :: r) = .error e) : e ≠ 0 := by
 unfold zh9 at h;simp only at h;split at h
 ·split at h <;> cases h;omega
 ·split at h
  ·split at h <;> cases h;omega
  ·split at h <;> cases h;omega
theorem zmv {s : List UInt8} : ∀ (f p : Nat) (q : Nat) (e : Int), zoS f s p = .error (q, e) -> p <= s.length -> e ≠ 0 /\ q <= s.length
 | 0, p, q, e, h, _ => by simp [zoS] at h
 | f + 1, p, q, e, h, h3 => by
  rw [zoS] at h;have hle := zd6 zcG (s.drop p);rw [List.length_drop] at hle;split at h
  ·cases h
  ·rename_i c r hd;have hdl : (s.drop (p + zcY zcG (s.drop p))).length = r.length + 1 := by rw [hd]; rfl
   rw [List.length_drop] at hdl;split at h
   ·rename_i ht;cases h;exact ⟨zoG ht, by omega⟩
   ·rename_i t ht;obtain ⟨ht1, ht2⟩ := zgj ht;simp only [List.length_cons] at ht2;split at h
    ·rename_i x hx;cases h;exact zmv f _ q e hx (by omega)
    ·cases h
theorem zqB {s : List UInt8} {q : Nat} {e : Int} (h : zoQ s = .error (q, e)) : e ≠ 0 /\ q <= s.length := by
 unfold zoQ at h;split at h
 ·cases h; exact ⟨by decide, by omega⟩
 ·exact zmv _ _ _ _ h (by omega)
def zrK (r : Exp × Int × Int) : D := .tup [.u (.agg r.1.row), .u (.int .i64 r.2.1), .u (.int .i64 r.2.2)]
theorem zkw (s : List UInt8) : RetX Tryz.prog 64 [.u (.str s)] [] 0 (fun r o n => r = .val (zrK (zgE s))) := by
 unfold zgE;cases hlx : zoQ s with
 | error pe =>
  obtain ⟨p, e⟩ := pe;have ho := fun nx => zqn s p e nx hlx;have he := (zqB hlx).1;simp only
  (refine RetX.zfp Tryz.func64 rfl (by simp) fun Γ hn hdfr hpan hesc => ?_); simp only [entry, List.zipIdx_cons, List.zipIdx_nil, List.map_cons, List.map_nil, Nat.zero_add, Tryz.ntmps64]
  repeat' (first
  | (refine zf8 rfl ?_; simp [he])
  | (refine ⟨hC _ (by kernel_rfl), hk _ (zel 0 _ _ _ ?_)⟩; clear hC hk C k; simp [he])
  | (refine zeW rfl (by kernel_rfl) (by first | (simp [hn]; done) | (simp [hn]; omega) | fail) fun C k hC hk => ?_; simp [he])
  | (refine CallP.okL (ho _) (by first | (simp [he, zaa, getK, zab, zac, zad, zah, del]; done) | fail) (by rfl) (by first | assumption | (simp; done) | fail) (by rfl) (by simp) ?_; (try simp [he, zdt, del]))
  | fail)
  refine EndW.norm ?_;simp [St.norm, zaX, zbH, zbS, zbT]
  (refine EndW.h Tryz.results64 ?_; simp)
  simp [zrK, Exp.row, zgO]
 | ok l =>
  obtain ⟨hl, hl2, hl0⟩ := zsl hlx;have ho := fun nx => zsh s l nx hlx;have hE := (zoy hl (4 * l.length + 3)).1 0 0 3 4 (by omega) hl0 (by omega) (by omega) (by omega);simp only;cases hr : ze9 l (4 * l.length + 3) 0 0 with
  | stop pos e =>
   simp only [hr] at hE ⊢
   (refine RetX.zfp Tryz.func64 rfl (by simp) fun Γ hn hdfr hpan hesc => ?_); simp only [entry, List.zipIdx_cons, List.zipIdx_nil, List.map_cons, List.map_nil, Nat.zero_add, Tryz.ntmps64]
   rw [zfn]
   repeat' (first
  | (refine zf8 rfl ?_; simp)
  | (refine CallP.okL (ho _) (by first | (simp [zaa, getK, zab, zac, zad, zah, del]; done) | fail) (by rfl) (by first | assumption | (simp; done) | fail) (by rfl) (by simp) ?_; (try simp [zdt, del]))
  | fail)
   refine zjX hesc hdfr rfl (by simp) ?_;have hn0 := hn;have hpan0 := hpan;intro Γ' hn hpan;simp
   repeat' (first
  | (refine zf8 rfl ?_; simp)
  | (refine CallP.zg8 (hE) (by first | (simp [zaa, getK, zab, zac]; done) | fail) (by rfl) (by first | assumption | (simp; done) | fail) (by rfl) (by simp) ?_; rintro ob' ⟨q', rfl⟩; refine ⟨_, Wk.refl _, ?_⟩)
  | fail)
   refine hpan _ _ ?_;refine LeaveD.of [(1, .box [.u (.int .i64 0)]), (2, .box [.u (.int .i64 0)]), (0, zkX)] (by simp [zaa, getK, zab, zac]) (zjl 1 2 0 _ (by simp) (by simp) (by simp) (by decide) (by decide) (by decide) 0 0 _ _ 0 0 0 [] .nil) ?_;simp only [show Γ.base.n0 = 0 from hn0];simp [zdt, del];refine EndW.norm ?_;simp [St.norm, zaX, zbH, zbS, zbT]
   (refine EndW.h Tryz.results64 ?_; simp)
   simp [zrK, Exp.row, zgO]
  | ok y q =>
   have hEx := zev hE hr;obtain ⟨g0a, g0b⟩ := (zdn hl _).1 _ _ _ _ hr hl0;have hlev := (zku (l := l) _).1 _ _ _ _ hr;have hlev2 : y.lev <= 1000000000 := by
    have h1 : ((4 * l.length + 3 : Nat) : Int) * ((4 * l.length + 3 : Nat) : Int) <= 8007 * 8007 := Int.mul_le_mul (by omega) (by omega) (by omega) (by omega);omega
   have hlv := znr (SizeOf.sizeOf y) y (Nat.le_refl _) hlev2;rw [Exp.row_eq] at hlv;obtain ⟨t, ht⟩ : ∃ t, l[q]? = some t := ⟨_, List.getElem?_eq_getElem g0b⟩;have hnx := zdm l q t ht hl.len;have hka : zmx l q = t.kind := by unfold zmx; rw [ht]
   have hpa : zks l q = t.pos := by unfold zks; rw [ht]
   simp only [hka, hpa];by_cases hk : t.kind = 0
   ·have hc1 := fun nx (h : 3 < nx) => zg5 l q 12 3 nx h;rw [if_neg (by simp [hk])];by_cases hv : 12 < y.lev
    ·have hc2 := fun nx (h : 3 < nx) => zf3 l q t 6 3 nx h ht hl.len;have hv2 : ¬ y.lev <= 12 := by omega
     rw [if_pos hv]
     (refine RetX.zfp Tryz.func64 rfl (by simp) fun Γ hn hdfr hpan hesc => ?_); simp only [entry, List.zipIdx_cons, List.zipIdx_nil, List.map_cons, List.map_nil, Nat.zero_add, Tryz.ntmps64]
     rw [zfn]
     repeat' (first
  | (refine zf8 rfl ?_; simp)
  | (refine CallP.okL (ho _) (by first | (simp [zaa, getK, zab, zac, zad, zah, del]; done) | fail) (by rfl) (by first | assumption | (simp; done) | fail) (by rfl) (by simp) ?_; (try simp [zdt, del]))
  | fail)
     refine zjX hesc hdfr rfl (by simp) ?_;have hn0 := hn;have hpan0 := hpan;intro Γ' hn hpan;simp
     repeat' (first
  | (refine zf8 rfl ?_; simp [hk, hv, hv2, del])
  | ((first | refine CallP.f2 rfl (hlv) (by first | simp [hk, hv, hv2, del] <;> rfl | fail) ?_ | refine CallP.f2 rfl (hnx) (by first | simp [hk, hv, hv2, del] <;> rfl | fail) ?_ | fail); simp [hk, hv, hv2, del])
  | (refine CallP.ok1 (hEx) (by first | (simp [hk, hv, hv2, del, zaa, getK, zab, zac]; done) | fail) (by rfl) (by first | assumption | (simp; done) | fail) (by rfl) (by simp) ?_; (try simp [hk, hv, hv2, del]))
  | (refine CallP.ok1 (hc1 _ (by simp)) (by first | (simp [hk, hv, hv2, del, zaa, getK, zab, zac]; done) | fail) (by rfl) (by first | assumption | (simp; done) | fail) (by rfl) (by simp) ?_; (try simp [hk, hv, hv2, del]))
  | (refine CallP.zg8 (hc2 _ (by simp)) (by first | (simp [hk, hv, hv2, del, zaa, getK, zab, zac]; done) | fail) (by rfl) (by first | assumption | (simp; done) | fail) (by rfl) (by simp) ?_; rintro ob' ⟨q', rfl⟩; refine ⟨_, Wk.refl _, ?_⟩)
  | fail)
     refine hpan _ _ ?_;refine LeaveD.of [(1, .box [.u (.int .i64 0)]), (2, .box [.u (.int .i64 0)]), (0, zkX)] (by simp [zaa, getK, zab, zac]) (zjl 1 2 0 _ (by simp) (by simp) (by simp) (by decide) (by decide) (by decide) 0 0 _ _ 0 0 0 [] .nil) ?_;simp only [show Γ.base.n0 = 0 from hn0];simp [zdt, del];refine EndW.norm ?_;simp [St.norm, zaX, zbH, zbS, zbT]
     (refine EndW.h Tryz.results64 ?_; simp)
     simp [zrK, Exp.row, zgO]
    ·have hc2 := fun nx (h : 3 < nx) => zg5 l q 6 3 nx h;have hv2 : y.lev <= 12 := by omega
     rw [if_neg hv]
     (refine RetX.zfp Tryz.func64 rfl (by simp) fun Γ hn hdfr hpan hesc => ?_); simp only [entry, List.zipIdx_cons, List.zipIdx_nil, List.map_cons, List.map_nil, Nat.zero_add, Tryz.ntmps64]
     rw [zfn]
     repeat' (first
  | (refine zf8 rfl ?_; simp)
  | (refine CallP.okL (ho _) (by first | (simp [zaa, getK, zab, zac, zad, zah, del]; done) | fail) (by rfl) (by first | assumption | (simp; done) | fail) (by rfl) (by simp) ?_; (try simp [zdt, del]))
  | fail)
     refine zjX hesc hdfr rfl (by simp) ?_;have hn0 := hn;have hpan0 := hpan;intro Γ' hn hpan;simp
     repeat' (first
  | (refine zf8 rfl ?_; simp [hk, hv, hv2, del])
  | ((first | refine CallP.f2 rfl (hlv) (by first | simp [hk, hv, hv2, del] <;> rfl | fail) ?_ | refine CallP.f2 rfl (hnx) (by first | simp [hk, hv, hv2, del] <;> rfl | fail) ?_ | fail); simp [hk, hv, hv2, del])
  | (refine CallP.ok1 (hEx) (by first | (simp [hk, hv, hv2, del, zaa, getK, zab, zac]; done) | fail) (by rfl) (by first | assumption | (simp; done) | fail) (by rfl) (by simp) ?_; (try simp [hk, hv, hv2, del]))
  | (refine CallP.ok1 (hc1 _ (by simp)) (by first | (simp [hk, hv, hv2, del, zaa, getK, zab, zac]; done) | fail) (by rfl) (by first | assumption | (simp; done) | fail) (by rfl) (by simp) ?_; (try simp [hk, hv, hv2, del]))
  | (refine CallP.ok1 (hc2 _ (by simp)) (by first | (simp [hk, hv, hv2, del, zaa, getK, zab, zac]; done) | fail) (by rfl) (by first | assumption | (simp; done) | fail) (by rfl) (by simp) ?_; (try simp [hk, hv, hv2, del]))
  | fail)
     refine ⟨rfl, ?_⟩;refine LeaveD.of [(1, .box [.u (.int .i64 0)]), (2, .box [.u (.int .i64 0)]), (0, .box ([.int .i64 y.op, .int .i64 y.n, .int .i64 y.unit, .str y.s, .sl (y.args.map Exp.row)].map .u))] (by simp [zaa, getK, zab, zac]) (zqm 1 2 0 _ (by simp) (by simp) (by simp) (by decide) (by decide) (by decide) 0 0 _) ?_;simp only [show Γ.base.n0 = 0 from hn0];simp [zdt, del]
     (refine EndW.h Tryz.results64 ?_; simp)
     simp [zrK, Exp.row_eq]
   ·have hc1 := fun nx (h : 3 < nx) => zf3 l q t 12 3 nx h ht hl.len;rw [if_pos hk]
    (refine RetX.zfp Tryz.func64 rfl (by simp) fun Γ hn hdfr hpan hesc => ?_); simp only [entry, List.zipIdx_cons, List.zipIdx_nil, List.map_cons, List.map_nil, Nat.zero_add, Tryz.ntmps64]
    rw [zfn]
    repeat' (first
  | (refine zf8 rfl ?_; simp)
  | (refine CallP.okL (ho _) (by first | (simp [zaa, getK, zab, zac, zad, zah, del]; done) | fail) (by rfl) (by first | assumption | (simp; done) | fail) (by rfl) (by simp) ?_; (try simp [zdt, del]))
  | fail)
    refine zjX hesc hdfr rfl (by simp) ?_;have hn0 := hn;have hpan0 := hpan;intro Γ' hn hpan;simp
    repeat' (first
  | (refine zf8 rfl ?_; simp [hk, del])
  | (refine CallP.f2 rfl (hnx) (by first | simp [hk, del] <;> rfl | fail) ?_; simp [hk, del])
  | (refine CallP.ok1 (hEx) (by first | (simp [hk, del, zaa, getK, zab, zac]; done) | fail) (by rfl) (by first | assumption | (simp; done) | fail) (by rfl) (by simp) ?_; (try simp [hk, del]))
  | (refine CallP.zg8 (hc1 _ (by simp)) (by first | (simp [hk, del, zaa, getK, zab, zac]; done) | fail) (by rfl) (by first | assumption | (simp; done) | fail) (by rfl) (by simp) ?_; rintro ob' ⟨q', rfl⟩; refine ⟨_, Wk.refl _, ?_⟩)
  | fail)
    refine hpan _ _ ?_;refine LeaveD.of [(1, .box [.u (.int .i64 0)]), (2, .box [.u (.int .i64 0)]), (0, zkX)] (by simp [zaa, getK, zab, zac]) (zjl 1 2 0 _ (by simp) (by simp) (by simp) (by decide) (by decide) (by decide) 0 0 _ _ 0 0 0 [] .nil) ?_;simp only [show Γ.base.n0 = 0 from hn0];simp [zdt, del];refine EndW.norm ?_;simp [St.norm, zaX, zbH, zbS, zbT]
    (refine EndW.h Tryz.results64 ?_; simp)
    simp [zrK, Exp.row, zgO]
theorem zgG (s : List UInt8) : Fun Tryz.prog 64 [.u (.str s)] (· = .tup [zcF (zgE s).1, .u (.int .i64 (zgE s).2.1), .u (.int .i64 (zgE s).2.2)]) := by
 unfold Fun;exact (zkw s).ret (fun d o n h => by
  cases h;refine ⟨by simp [zrK, zaV], ?_⟩;rw [zrK, Exp.row_eq];rfl) (fun ch o n h => by cases h)
end Go.Proofs.YtkdhmbhbbciedaaGreatDoor
namespace Go.Proofs.YtkdhmbhbbciedaaGreatDoor
open Go Go.VL
mutual
def zue : Exp -> Int
 | .mk _ _ _ _ args => zoT args + 1
def zoT : List Exp -> Int
 | [] => 0
 | e :: l => max (zue e) (zoT l)
end
theorem zic (l : List Int) (a : Int) (ha : 0 <= a) : l.foldl max a = max a (l.foldl max 0) := by
 induction l generalizing a with
 | nil => simp; omega
 | cons b l ih => simp only [List.foldl_cons]; rw [ih (max a b) (by omega), ih (max 0 b) (by omega)]; omega
mutual
theorem zoU : ∀ e : Exp, zue e = e.lev
 | .mk op n u s args => by rw [zue, Exp.zh2, zmw]; rfl
theorem zmw : ∀ l : List Exp, zoT l = (l.map Exp.lev).foldl max 0
 | [] => by rw [zoT]; rfl
 | e :: l => by
  have := e.lev_pos;rw [zoT, zoU, zmw, List.map_cons, List.foldl_cons, zic (l.map Exp.lev) (max 0 e.lev) (by omega)];omega
end
def zcQ (s : List UInt8) : Exp × Int × Int := match zoQ s with
 | .error (p, e) => (zgO, p, e)
 | .ok l => match ze9 l (4 * l.length + 3) 0 0 with
  | .stop pos e => (zgO, pos, e)
  | .ok y q => if zmx l q ≠ 0 then (zgO, zks l q, 12) else if 12 < zue y then (zgO, zks l q, 6) else (y, 0, 0)
theorem zkv (s : List UInt8) : zgE s = zcQ s := by
 unfold zgE zcQ;simp only [zoU];rfl
end Go.Proofs.YtkdhmbhbbciedaaGreatDoor
namespace Go.Proofs.YtkdhmbhbbciedaaGreatDoor
open Go Go.VL
attribute [local simp] HS zaY zcB zbz evPure opd uOf zal St.put St.at getK binD binI binS binB nilD aggD zeS zfd lookD lookR zbE rangeS Go.VL.nextD Go.VL.nextS zbJ zfk zfe zeu zb7 mkV zaZ zcH zaL za1 mapEff zdw zek Key.kk shiftI arith unD convD zcP loadD cellsAt fieldAddrD fieldD indexAddrD indexSlD arrAddr indexD sliceD cutD lenD minmaxD nilCheckD buildD fillD zbn zcC zd1 setAll zcx zdZ zbD zeO zbC St.add zaj za6 rowsOf zcI zca zad zac zaa zaQ zcs zaG entry za2 za3 valD zbK zcq zeL zcD zcE zbp zbo zag zaB za0 delAll effD St.effS zb4 zaD zas zb5 zaE zau zbl zat zan zbm zb2 zaW zbj zaJ zbi zah mkD zbd za4 zbb zag zbN D.ids Op.operands Call.operands za5 makeIfD makeFuncD typeAssertD zfc zcL zcM zeY zbG IntKind.bits zbQ zam List.take_of_length_le List.range_succ zci zbx zcj zcd za7 zbq zbs zce zbu zaP zbt zbr zfJ zbw zcg zaH zav zch zaI zax zbv zaw zaq zcm zcn zfH zab frzN frz1 zaO zaN St.frz St.frzS frzS fv zbI zbV zcb zaM zay zao frz zcc zbH zbS zbT zaX St.norm St.lp St.only zaS wkE wkO wkU Ob.under D.under zai zap zck zby zcl h4s zdG zar zaV List.zipIdx_cons List.zipIdx_nil List.map_cons List.map_nil Nat.zero_add
attribute [local irreducible] V G H HD HD2 HD4 zgA RetX zaT Eff CallP CallV EndOK Fun Ret FinOK LoopI LoopW EndW HR vs2 RN Cnd H4
theorem zeF (lets : List Let) (bs : List W8) (s : W8) (e : Exp) (c : Code) (hlen : bs.length = lets.length) (hp : ∀ (i : Nat) (l : Let) (b : W8), lets[i]? = some l -> bs[i]? = some b -> zcQ b = (l.body, 0, 0))
  (he : zcQ s = (e, 0, 0)) (hc : zdC lets e = (c, 0)) (hcl : c.length <= 1000000) (hll : lets.length <= 1000) :
  Fun Tryz.prog 32 [.u (zn7 (lets.map (·.name))), .u (zn7 bs), .u (.str s)] (· = .u (.str (ze4 c))) := by
 have h1 := zgG s;rw [zkv, he] at h1;have h2 := zeJ lets e;rw [hc] at h2;have h3 := zmt c hcl;simp only [zn7, List.map_map, zaz, zcF, Vm.inss] at h1 h2 h3 ⊢;have hA0 : (fun i => (lets.take i).map zqC) 0 = [] := rfl;have hAl : ∀ i, i <= lets.length -> ((fun i => (lets.take i).map zqC) i).length = i := fun i hi => by simp; omega
 have hAn : ∀ i l, lets[i]? = some l -> (fun i => (lets.take i).map zqC) (i + 1) = (fun i => (lets.take i).map zqC) i ++ [zqC l] := fun i x hx => by
  have hlt : i < lets.length := (List.getElem?_eq_some_iff.1 hx).1;simp only;rw [List.take_succ_eq_append_getElem hlt, List.map_append, (List.getElem?_eq_some_iff.1 hx).2]; rfl
 have hAe : (lets.map fun l => [U.str l.name, .int .i64 l.body.op, .int .i64 l.body.n, .int .i64 l.body.unit, .str l.body.s, .sl (l.body.args.map Exp.row)]) = (fun i => (lets.take i).map zqC) lets.length := by simp [zqC]
 rw [hAe] at h2;generalize (fun i => (lets.take i).map zqC) = A at hA0 hAl hAn h2;clear hAe;refine Fun.runW Tryz.func32 Tryz.ntmps32 rfl (by simp) fun Γ hn => ?_; simp only [entry, List.zipIdx_cons, List.zipIdx_nil, List.map_cons, List.map_nil, Nat.zero_add];refine zjW (x := 0) rfl fun hl1 => ?_;refine zjW (x := 1) rfl fun hl2 => ?_;simp only [List.length_map] at hl1 hl2
 repeat' (first
  | (refine zaf rfl ?_; simp)
  | fail)
 refine zn9 _ (Wk.own 7 39 6 (by decide) rfl) ?_;simp [St.own];refine zdg (α := { i : Nat // i <= lets.length }) [0, 1, 2] (fun i => [(8, .u (.int .i64 i.1)), (7, .vec 0 i.1)]) (fun i => [(0, .vec 39 6 (rowsD (A i.1)))]) 1 (fun i => lets.length - i.1) ⟨0, by omega⟩ ?_ ?_
 ·exact (Wk.ren ((fun i => i)) rfl (by first | (simp [hn]; done) | (intro i hi; rw [hn] at hi; constructor <;> (try simp) <;> (try (intro _)) <;> omega)) (by simp [zfK, St.lp, zaS, zaa, getK, zac, zad, D.under, D.le, D.ren, hA0] <;> (try (intros; simp_all; done)) <;> (try omega)) (by simp [wkR, St.lp, zaa, getK, zac, zad, obR, leU, zbe, zaF, Ob.under, D.under, D.le, D.ren, hA0] <;> (try (intros; simp_all; done)) <;> (try omega)) (by simp [hA0]))
 rintro ⟨i, hi⟩;have hal := hAl i hi;have htk : (A i).take i = A i := List.take_of_length_le (by omega);simp;rcases hx : lets[i]? with _ | l
 case none =>
  have hge : lets.length <= i := by simpa using hx
  obtain rfl : i = lets.length := by omega
  refine zn9 _ (Wk.frz (e := 39) (sz := 6) 0 [] (us := A lets.length) (by simp [zaa]; rfl) (zf6 _)) ?_;simp [St.frz, St.frzS, frzS, fv, zbI, zaM, del, hal, htk];have hge1 : ¬ (lets.length : Int) < lets.length := by omega
  repeat' (first
  | (refine zaf rfl ?_; simp [hlen])
  | ((first | refine CallP.f2 rfl (h1) (by first | simp [hlen] <;> rfl | fail) ?_ | refine CallP.f2 rfl (h2) (by first | simp [hlen] <;> rfl | fail) ?_ | refine CallP.f2 rfl (h3) (by first | simp [hlen] <;> rfl | fail) ?_ | fail); simp [hlen])
  | fail)
  refine EndW.here ?_
  (refine EndOK.val (.inr rfl) ?_; simp [Tryz.results32])
 case some =>
  have hlt : i < lets.length := (List.getElem?_eq_some_iff.1 hx).1;obtain ⟨b, hb⟩ : ∃ b, bs[i]? = some b := ⟨_, List.getElem?_eq_getElem (by omega)⟩;have hlb : i < bs.length := by omega
  have hpi := hp i l b hx hb;have h5 := zgG b;rw [zkv, hpi] at h5;simp only [zcF] at h5;have hnext := hAn i l hx;simp only [zqC] at hnext;have hnx : lets[i] = l := (List.getElem?_eq_some_iff.1 hx).2;have hnb : bs[i] = b := (List.getElem?_eq_some_iff.1 hb).2
  repeat' (first
  | (refine zaf rfl ?_; simp [hx, hb, hlb, hlt, hlen, hnx, hnb])
  | (refine And.intro (by omega) ?_)
  | (refine ⟨hC _ (by kernel_rfl), hk _ (zel 8 _ _ _ ?_)⟩; clear hC hk C k; simp [hx, hb, hlb, hlt, hlen, hnx, hnb])
  | (refine zeW rfl (by kernel_rfl) (by first | (simp [hn]; done) | (simp [hn]; omega) | fail) fun C k hC hk => ?_; simp [hx, hb, hlb, hlt, hlen, hnx, hnb])
  | (refine CallP.f2 rfl (h5) (by first | simp [hx, hb, hlb, hlt, hlen, hnx, hnb] <;> rfl | fail) ?_; simp [hx, hb, hlb, hlt, hlen, hnx, hnb])
  | fail)
  refine LoopW.next ⟨i + 1, (by omega : i + 1 <= lets.length)⟩ (by simp; omega) ?_
  exact (Wk.ren ((fun i => if i = 0 then 3 else i)) rfl (by first | (simp [hn]; done) | (intro i hi; rw [hn] at hi; constructor <;> (try simp) <;> (try (intro _)) <;> omega)) (by simp [zfK, St.lp, zaS, zaa, getK, zac, zad, D.under, D.le, D.ren, hnext, htk] <;> (try (intros; simp_all; done)) <;> (try omega)) (by simp [wkR, St.lp, zaa, getK, zac, zad, obR, leU, zbe, zaF, Ob.under, D.under, D.le, D.ren, hnext, htk] <;> (try (intros; simp_all; done)) <;> (try omega)) (by simp [hnext, htk]))
def sx1 : W8 := [112, 111, 116, 32, 45, 32, 112, 97, 105, 100, 32, 42, 32, 53, 48, 32, 112, 101, 114, 32, 109, 105, 108, 108, 101]
def sx2 : W8 := [104, 97, 108, 102, 32, 43, 32, 104, 97, 108, 102]
def sx3 : W8 := [105, 102, 32, 97, 32, 60, 32, 98, 32, 116, 104, 101, 110, 32, 49, 32, 101, 108, 115, 101, 32, 50]
def sx4 : W8 := [97, 32, 97, 110, 100, 32, 98]
def sx5 : W8 := [112, 111, 116, 32, 47, 32, 50]
def sc1 : Code := [⟨1, 0, [112, 111, 116]⟩, ⟨1, 0, [112, 97, 105, 100]⟩, ⟨0, 50, []⟩, ⟨6, 0, []⟩, ⟨3, 0, []⟩, ⟨14, 0, []⟩]
def sc2 : Code := [⟨1, 0, [112, 111, 116]⟩, ⟨0, 2, []⟩, ⟨5, 0, []⟩, ⟨1, 0, [112, 111, 116]⟩, ⟨0, 2, []⟩, ⟨5, 0, []⟩, ⟨2, 0, []⟩, ⟨14, 0, []⟩]
def sc3 : Code := [⟨1, 0, [97]⟩, ⟨1, 0, [98]⟩, ⟨9, 0, []⟩, ⟨13, 6, []⟩, ⟨0, 1, []⟩, ⟨12, 7, []⟩, ⟨0, 2, []⟩, ⟨14, 0, []⟩]
def sc4 : Code := [⟨1, 0, [97]⟩, ⟨13, 6, []⟩, ⟨1, 0, [98]⟩, ⟨11, 0, []⟩, ⟨11, 0, []⟩, ⟨12, 7, []⟩, ⟨0, 0, []⟩, ⟨14, 0, []⟩]
def hf : Let := ⟨[104, 97, 108, 102], (zcQ sx5).1⟩
theorem sp1 : zcQ sx1 = ((zcQ sx1).1, 0, 0) := by kernel_rfl
theorem sp2 : zcQ sx2 = ((zcQ sx2).1, 0, 0) := by kernel_rfl
theorem sp3 : zcQ sx3 = ((zcQ sx3).1, 0, 0) := by kernel_rfl
theorem sp4 : zcQ sx4 = ((zcQ sx4).1, 0, 0) := by kernel_rfl
theorem sp5 : zcQ sx5 = ((zcQ sx5).1, 0, 0) := by kernel_rfl
theorem sq1 : zdC [] (zcQ sx1).1 = (sc1, 0) := by kernel_rfl
theorem sq2 : zdC [hf] (zcQ sx2).1 = (sc2, 0) := by kernel_rfl
theorem sq3 : zdC [] (zcQ sx3).1 = (sc3, 0) := by kernel_rfl
theorem sq4 : zdC [] (zcQ sx4).1 = (sc4, 0) := by kernel_rfl
theorem zfl (n : Nat) (h : n < 10) : Lib.itoa (n : Int) = [UInt8.ofNat (48 + n)] := by
 rw [Lib.itoa, if_neg (by omega)];show Lib.decDigits n = _;rw [Lib.decDigits, dif_pos h]
theorem zqK : Lib.itoa 50 = [53, 48] := by
 rw [Lib.itoa, if_neg (by decide)];show Lib.decDigits 50 = _;rw [Lib.decDigits, dif_neg (by decide), Lib.decDigits, dif_pos (by decide)];rfl
theorem its : Lib.itoa 0 = [48] /\ Lib.itoa 1 = [49] /\ Lib.itoa 2 = [50] /\ Lib.itoa 5 = [53] /\ Lib.itoa 6 = [54] /\ Lib.itoa 7 = [55] := ⟨zfl 0 (by decide), zfl 1 (by decide), zfl 2 (by decide), zfl 5 (by decide), zfl 6 (by decide), zfl 7 (by decide)⟩
theorem tl1 : ze4 sc1 = [110, 97, 109, 101, 32, 112, 111, 116, 10, 110, 97, 109, 101, 32, 112, 97, 105, 100, 10, 110, 117, 109, 32, 53, 48, 10, 115, 99, 97, 108, 101, 10, 115, 117, 98, 10, 101, 110, 100, 10] := by
 have hr : zct sc1 = true := by kernel_rfl
 rw [ze4, if_pos hr];obtain ⟨i0, i1, i2, i5, i6, i7⟩ := its;simp [zdd, sc1, ze5, zdQ, wordsL, zqK, i0, i1, i2, i5, i6, i7]
theorem tl2 : ze4 sc2 = [110, 97, 109, 101, 32, 112, 111, 116, 10, 110, 117, 109, 32, 50, 10, 100, 105, 118, 10, 110, 97, 109, 101, 32, 112, 111, 116, 10, 110, 117, 109, 32, 50, 10, 100, 105, 118, 10, 97, 100, 100, 10, 101, 110, 100, 10] := by
 have hr : zct sc2 = true := by kernel_rfl
 rw [ze4, if_pos hr];obtain ⟨i0, i1, i2, i5, i6, i7⟩ := its;simp [zdd, sc2, ze5, zdQ, wordsL, zqK, i0, i1, i2, i5, i6, i7]
theorem tl3 : ze4 sc3 = [110, 97, 109, 101, 32, 97, 10, 110, 97, 109, 101, 32, 98, 10, 108, 101, 115, 115, 10, 102, 97, 108, 115, 101, 32, 54, 10, 110, 117, 109, 32, 49, 10, 106, 117, 109, 112, 32, 55, 10, 110, 117, 109, 32, 50, 10, 101, 110, 100, 10] := by
 have hr : zct sc3 = true := by kernel_rfl
 rw [ze4, if_pos hr];obtain ⟨i0, i1, i2, i5, i6, i7⟩ := its;simp [zdd, sc3, ze5, zdQ, wordsL, zqK, i0, i1, i2, i5, i6, i7]
theorem tl4 : ze4 sc4 = [110, 97, 109, 101, 32, 97, 10, 102, 97, 108, 115, 101, 32, 54, 10, 110, 97, 109, 101, 32, 98, 10, 110, 111, 116, 10, 110, 111, 116, 10, 106, 117, 109, 112, 32, 55, 10, 110, 117, 109, 32, 48, 10, 101, 110, 100, 10] := by
 have hr : zct sc4 = true := by kernel_rfl
 rw [ze4, if_pos hr];obtain ⟨i0, i1, i2, i5, i6, i7⟩ := its;simp [zdd, sc4, ze5, zdQ, wordsL, zqK, i0, i1, i2, i5, i6, i7]
def sc5 : Code := [⟨0, 5, []⟩, ⟨14, 0, []⟩]
theorem sr5 : zct sc5 = true := by kernel_rfl
theorem tl5 : zdd sc5 = [110, 117, 109, 32, 53, 10, 101, 110, 100, 10] := by
 obtain ⟨i0, i1, i2, i5, i6, i7⟩ := its;simp [zdd, sc5, ze5, zdQ, wordsL, i5]
theorem se5 : zjh [101, 110, 100, 10] = ([], 2) := by kernel_rfl
theorem zlr : Fun Tryz.prog 9 [] (· = .u (.bool true)) := by
 have f1 := zeF [] [] sx1 (zcQ sx1).1 sc1 rfl (by simp) sp1 sq1 (by decide) (by decide);have f2 := zeF [hf] [sx5] sx2 (zcQ sx2).1 sc2 rfl (by
  intro i l b h1 h2;cases i with
  | zero => simp at h1 h2; subst h1 h2; exact sp5
  | succ i => simp at h1) sp2 sq2 (by decide) (by decide)
 have f3 := zeF [] [] sx3 (zcQ sx3).1 sc3 rfl (by simp) sp3 sq3 (by decide) (by decide);have f4 := zeF [] [] sx4 (zcQ sx4).1 sc4 rfl (by simp) sp4 sq4 (by decide) (by decide);rw [tl1] at f1;rw [tl2] at f2;rw [tl3] at f3;rw [tl4] at f4;have g1 := zmm (zdd sc5) (by rw [tl5]; decide);rw [zos sr5, tl5] at g1;have g2 := zmm [101, 110, 100, 10] (by decide);rw [se5] at g2;have c1 := zew sc5 (by decide);rw [sr5] at c1;have c2 := zew [] (by decide);rw [show zct [] = false from rfl] at c2;have s1 := zpm sc5 sc5;rw [show decide (sc5 = sc5) = true by simp] at s1;simp [zn7, Vm.inss, sc5, hf, sx1, sx2, sx3, sx4, sx5] at f1 f2 f3 f4 g1 g2 c1 c2 s1;refine Fun.run Tryz.func9 Tryz.ntmps9 Tryz.results9 rfl (by simp) fun Γ hn => ?_
 repeat' (first
  | (refine zaf rfl ?_; simp [za3, za2, List.range_succ])
  | ((first | refine CallP.f2 rfl (f1) (by first | simp [za3, za2, List.range_succ] <;> rfl | fail) ?_ | refine CallP.f2 rfl (f2) (by first | simp [za3, za2, List.range_succ] <;> rfl | fail) ?_ | refine CallP.f2 rfl (f3) (by first | simp [za3, za2, List.range_succ] <;> rfl | fail) ?_ | refine CallP.f2 rfl (f4) (by first | simp [za3, za2, List.range_succ] <;> rfl | fail) ?_ | refine CallP.f2 rfl (g1) (by first | simp [za3, za2, List.range_succ] <;> rfl | fail) ?_ | refine CallP.f2 rfl (g2) (by first | simp [za3, za2, List.range_succ] <;> rfl | fail) ?_ | refine CallP.f2 rfl (c1) (by first | simp [za3, za2, List.range_succ] <;> rfl | fail) ?_ | refine CallP.f2 rfl (c2) (by first | simp [za3, za2, List.range_succ] <;> rfl | fail) ?_ | refine CallP.f2 rfl (s1) (by first | simp [za3, za2, List.range_succ] <;> rfl | fail) ?_ | fail); simp [za3, za2, List.range_succ])
  | fail)
 all_goals
  (refine Pst.of ?_; simp)
theorem zpp (lets : List Let) (e : Exp) (other : Let) (hsz : lets.length * 80 <= 140737488351232) : Fun Tryz.prog 6 [.u (zaz lets), zcF e, zpZ other] (· = .u (.bool true)) := by
 have h0 := zlr;have h1 := zrh (lets ++ [other]) e;have hthin : (zsu (lets ++ [other]) 4 30 && zn8 e 30) = true -> lets.length <= 3 /\ zh6 e = true := fun h => by
  simp only [zsu, Bool.and_eq_true, decide_eq_true_eq] at h;have := h.1.2;simp only [List.length_append, List.length_singleton] at this;exact ⟨by omega, zpf (by decide) (by decide) h.2⟩
 generalize (zsu (lets ++ [other]) 4 30 && zn8 e 30) = fw at *;cases fw with
 | false =>
  clear hthin;simp only [zaz, zcF, zpZ, List.map_append, List.map_cons, List.map_nil] at h1 ⊢;refine Fun.run Tryz.func6 Tryz.ntmps6 Tryz.results6 rfl (by simp) fun Γ hn => ?_
  repeat' (first
  | (refine zaf rfl ?_; simp)
  | (refine And.intro (by omega) ?_)
  | (refine ⟨hC _ (by kernel_rfl), hk _ (zel 8 _ _ _ ?_)⟩; clear hC hk C k; simp)
  | (refine zeW rfl (by kernel_rfl) (by first | (simp [hn]; done) | (simp [hn]; omega) | fail) fun C k hC hk => ?_; simp)
  | (refine zc7 rfl ?_; simp)
  | (refine zdN rfl ?_; simp)
  | ((first | refine CallP.f2 rfl (h0) (by first | simp <;> rfl | fail) ?_ | refine CallP.f2 rfl (h1) (by first | simp <;> rfl | fail) ?_ | fail); simp)
  | ((first | refine CallV.f2 rfl (h0) (by first | simp <;> rfl | fail) ?_ | refine CallV.f2 rfl (h1) (by first | simp <;> rfl | fail) ?_ | fail); simp)
  | fail)
  (refine Pst.of ?_; simp)
 | true =>
  obtain ⟨hl3, hth⟩ := hthin rfl;clear hthin;rcases List.eq_nil_or_concat lets with rfl | ⟨L0, last, hL⟩
  ·simp only [zaz, zcF, zpZ, List.map_append, List.map_cons, List.map_nil, List.nil_append] at h1 ⊢;refine Fun.run Tryz.func6 Tryz.ntmps6 Tryz.results6 rfl (by simp) fun Γ hn => ?_
   repeat' (first
  | (refine zaf rfl ?_; simp)
  | (refine ⟨hC _ (by kernel_rfl), hk _ (zel 8 _ _ _ ?_)⟩; clear hC hk C k; simp)
  | (refine zeW rfl (by kernel_rfl) (by first | (simp [hn]; done) | (simp [hn]; omega) | fail) fun C k hC hk => ?_; simp)
  | (refine zc7 rfl ?_; simp)
  | (refine zdN rfl ?_; simp)
  | ((first | refine CallP.f2 rfl (h0) (by first | simp <;> rfl | fail) ?_ | refine CallP.f2 rfl (h1) (by first | simp <;> rfl | fail) ?_ | fail); simp)
  | ((first | refine CallV.f2 rfl (h0) (by first | simp <;> rfl | fail) ?_ | refine CallV.f2 rfl (h1) (by first | simp <;> rfl | fail) ?_ | fail); simp)
  | fail)
   (refine Pst.of ?_; simp)
  ·replace hL : lets = L0 ++ [last] := by simpa using hL
   subst hL;have hl : L0.length <= 2 := by simp at hl3; omega
   have h2 := zeJ (L0 ++ [last]) e;have h3 := zmO last.name last.body _ e (Nat.le_refl _) hth;have h4 := zeJ L0 (zfv last.name last.body e);have h5 := zd7 (zfv last.name last.body e);have h7 := ziY other.name _ e (Nat.le_refl _);have h8 := zd7 other.body;have h9 := zeJ (L0 ++ [last] ++ [other]) e;have hput := fun h hx => @zqY L0 last e h hx;have hsp := fun h ho he => @znO (L0 ++ [last]) other e h (by omega) ho he;have hra := @zsF (L0 ++ [last]) e;have hs1 := ziv (zdC (L0 ++ [last]) e).1 (zdC L0 (zfv last.name last.body e)).1;have hs2 := ziv (zdC (L0 ++ [last]) e).1 (zdC (L0 ++ [last] ++ [other]) e).1;generalize zfv last.name last.body e = x at *;by_cases hw : (zdC (L0 ++ [last]) e).2 = 1
   ·rw [hw] at h2;generalize (zdC (L0 ++ [last]) e).1 = c1 at *;simp only [zaz, zcF, zpZ, Vm.inss, List.map_append, List.map_cons, List.map_nil] at h1 h2 ⊢;refine Fun.run Tryz.func6 Tryz.ntmps6 Tryz.results6 rfl (by simp) fun Γ hn => ?_
    repeat' (first
  | (refine Cnd.of (fun hc => ?_) (fun hc => ?_) <;> (try (exfalso; omega)) <;> (try simp))
  | (refine zaf rfl ?_; simp)
  | (refine And.intro (by omega) ?_)
  | (refine ⟨hC _ (by kernel_rfl), hk _ (zel 8 _ _ _ ?_)⟩; clear hC hk C k; simp)
  | (refine zeW rfl (by kernel_rfl) (by first | (simp [hn]; done) | (simp [hn]; omega) | fail) fun C k hC hk => ?_; simp)
  | (refine zc7 rfl ?_; simp)
  | (refine zdN rfl ?_; simp)
  | ((first | refine CallP.f2 rfl (h0) (by first | simp <;> rfl | fail) ?_ | refine CallP.f2 rfl (h1) (by first | simp <;> rfl | fail) ?_ | refine CallP.f2 rfl (h2) (by first | simp <;> rfl | fail) ?_ | fail); simp)
  | ((first | refine CallV.f2 rfl (h0) (by first | simp <;> rfl | fail) ?_ | refine CallV.f2 rfl (h1) (by first | simp <;> rfl | fail) ?_ | refine CallV.f2 rfl (h2) (by first | simp <;> rfl | fail) ?_ | fail); simp)
  | fail)
    (refine Pst.of ?_; simp)
   replace hput := hput (hra hw)
   replace hsp := hsp (hra hw)
   clear hra;generalize zdC (L0 ++ [last]) e = c1 at *;generalize zdC L0 x = c2 at *;generalize zdC (L0 ++ [last] ++ [other]) e = c3 at *;generalize zba 12 x = rx at *;generalize zeP other.name e = us at *;generalize zba 12 other.body = ro at *;obtain ⟨c1, w1⟩ := c1;obtain ⟨c2, w2⟩ := c2;obtain ⟨c3, w3⟩ := c3;simp only [zaz, zcF, zpZ, Vm.inss, List.map_append, List.map_cons, List.map_nil] at h1 h2 h3 h4 h5 h7 h8 h9 hs1 hs2 hw ⊢;generalize hR0 : (L0.map fun l => [U.str l.name, .int .i64 l.body.op, .int .i64 l.body.n, .int .i64 l.body.unit, .str l.body.s, .sl (l.body.args.map Exp.row)]) = R0 at *;have hR : R0.length <= 2 := by rw [<- hR0]; simpa using hl
   have hlr : zh3 6 R0 := by rw [<- hR0, zqD]; intro l _; rfl
   have hon : zfP (rowsD R0) := by rw [<- hR0, zhq]; intro l _; rfl
   clear hR0;have hD : ∀ nx, RetX Tryz.prog 12 [.vec 11 (R0.length + 1 + 1), .u (.agg [.int .i64 e.op, .int .i64 e.n, .int .i64 e.unit, .str e.s, .sl (e.args.map Exp.row)])]
     [(11, .vec 39 6 (rowsD R0 ++ [[.u (.str last.name), .u (.int .i64 last.body.op), .u (.int .i64 last.body.n), .u (.int .i64 last.body.unit), .u (.str last.body.s), .u (.sl (last.body.args.map Exp.row))],
       [.u (.str other.name), .u (.int .i64 other.body.op), .u (.int .i64 other.body.n), .u (.int .i64 other.body.unit), .u (.str other.body.s), .u (.sl (other.body.args.map Exp.row))]]))] nx
     (fun r o n => r = .val (.tup [.u (.sl (c3.map fun c => [U.int .i64 c.op, .int .i64 c.a, .str c.s])), .u (.int .i64 w3)]) /\ o = [] /\ n = nx) := fun nx =>
    (RetX.zuN (L := [11]) h9 (by simp [zbK, zcq, zeL, zcD, zcE, zaa, getK])).mono fun r o n ⟨q1, q2, q3⟩ => ⟨q1, by rw [q2]; simp [zaB, delAll, del], q3⟩
   cases rx <;> cases us <;> cases ro
   all_goals
    try simp only [reduceCtorEq, forall_const, false_implies, Prod.mk.injEq] at hput
    try simp only [reduceCtorEq, forall_const, false_implies, Prod.mk.injEq] at hsp
    try (obtain ⟨rfl, rfl⟩ := hput)
    try (obtain ⟨rfl, rfl⟩ := hsp)
    try simp only [decide_true] at hs1
    try simp only [decide_true] at hs2
    refine Fun.run Tryz.func6 Tryz.ntmps6 Tryz.results6 rfl (by simp) fun Γ hn => ?_
    repeat' (first
  | (refine zeW rfl (by kernel_rfl) (by first | (simp [hn]; done) | (simp [hn]; omega) | fail) fun C k hC hk => ?_; simp [hw, hR, hlr, hon])
  | (refine ztc (fun nx hnx => hD nx) (by first | (simp [hw, hR, hlr, hon, zaa, getK, zab, zac, zad, zah, del]; done) | fail) (by first | (simp [hw, hR, hlr, hon]; done) | fail) (by rfl) (by first | assumption | (simp; done) | fail) (by rfl) (by first | (simp [hw, hR, hlr, hon, D.under, Ob.under, zai, zap]; done) | (simp [hw, hR, hlr, hon, D.under, Ob.under, zai, zap]; omega) | fail) (by simp) ?_; (try simp [hw, hR, hlr, hon]))
  | (refine Cnd.of (fun hc => ?_) (fun hc => ?_) <;> (try (exfalso; omega)) <;> (try simp [hw, hR, hlr, hon]))
  | (refine zaf rfl ?_; simp [hw, hR, hlr, hon])
  | (refine And.intro (by omega) ?_)
  | (refine ⟨hC _ (by kernel_rfl), hk _ (zel 8 _ _ _ ?_)⟩; clear hC hk C k; simp [hw, hR, hlr, hon])
  | (refine zc7 rfl ?_; simp [hw, hR, hlr, hon])
  | (refine zdN rfl ?_; simp [hw, hR, hlr, hon])
  | ((first | refine CallP.f2 rfl (h0) (by first | simp [hw, hR, hlr, hon] <;> rfl | fail) ?_ | refine CallP.f2 rfl (h1) (by first | simp [hw, hR, hlr, hon] <;> rfl | fail) ?_ | refine CallP.f2 rfl (h2) (by first | simp [hw, hR, hlr, hon] <;> rfl | fail) ?_ | refine CallP.f2 rfl (h3) (by first | simp [hw, hR, hlr, hon] <;> rfl | fail) ?_ | refine CallP.f2 rfl (h4) (by first | simp [hw, hR, hlr, hon] <;> rfl | fail) ?_ | refine CallP.f2 rfl (h5) (by first | simp [hw, hR, hlr, hon] <;> rfl | fail) ?_ | refine CallP.f2 rfl (h7) (by first | simp [hw, hR, hlr, hon] <;> rfl | fail) ?_ | refine CallP.f2 rfl (h8) (by first | simp [hw, hR, hlr, hon] <;> rfl | fail) ?_ | refine CallP.f2 rfl (hs1) (by first | simp [hw, hR, hlr, hon] <;> rfl | fail) ?_ | refine CallP.f2 rfl (hs2) (by first | simp [hw, hR, hlr, hon] <;> rfl | fail) ?_ | fail); simp [hw, hR, hlr, hon])
  | ((first | refine CallV.f2 rfl (h0) (by first | simp [hw, hR, hlr, hon] <;> rfl | fail) ?_ | refine CallV.f2 rfl (h1) (by first | simp [hw, hR, hlr, hon] <;> rfl | fail) ?_ | refine CallV.f2 rfl (h2) (by first | simp [hw, hR, hlr, hon] <;> rfl | fail) ?_ | refine CallV.f2 rfl (h3) (by first | simp [hw, hR, hlr, hon] <;> rfl | fail) ?_ | refine CallV.f2 rfl (h4) (by first | simp [hw, hR, hlr, hon] <;> rfl | fail) ?_ | refine CallV.f2 rfl (h5) (by first | simp [hw, hR, hlr, hon] <;> rfl | fail) ?_ | refine CallV.f2 rfl (h7) (by first | simp [hw, hR, hlr, hon] <;> rfl | fail) ?_ | refine CallV.f2 rfl (h8) (by first | simp [hw, hR, hlr, hon] <;> rfl | fail) ?_ | refine CallV.f2 rfl (hs1) (by first | simp [hw, hR, hlr, hon] <;> rfl | fail) ?_ | refine CallV.f2 rfl (hs2) (by first | simp [hw, hR, hlr, hon] <;> rfl | fail) ?_ | fail); simp [hw, hR, hlr, hon])
  | fail)
    all_goals first
     | ((refine Pst.of ?_; simp); done)
     | skip
end Go.Proofs.YtkdhmbhbbciedaaGreatDoor
