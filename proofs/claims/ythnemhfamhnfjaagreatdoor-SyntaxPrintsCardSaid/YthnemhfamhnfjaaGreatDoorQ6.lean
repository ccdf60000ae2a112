import Derived.Test.YthnemhfamhnfjaaGreatDoorQ5
set_option linter.all false
set_option maxRecDepth 100000
set_option maxHeartbeats 8000000
namespace Go.Proofs.YthnemhfamhnfjaaGreatDoor
open Go Go.VL
attribute [local simp] HS zc2 zb3 evPure opd uOf zaF St.put St.at getK binD binI binS binB nilD aggD zgQ zha lookD lookR zcu Go.VL.nextD zcx zhu zhc zf2 zcw mkV zdj zbk zbu mapEff zdY zfQ Key.kk shiftI arith unD convD zdH loadD cellsAt fieldAddrD fieldD indexAddrD indexD sliceD cutD lenD minmaxD nilCheckD buildD fillD zbP zdb zeC setAll zcK zeO zco zg0 zcm St.add zaO zbF rowsOf zdA zcH zam zac zaa za7 zcC zaQ entry zbE zbO valD zb4 zcy zgh zdh zdi zbT zbK zaw zaW zbo delAll effD St.effS zcU za8 zaY zcV za9 za0 zb9 zaZ zaT zca zcS zbD zb8 zbl zb6 zb7 zaL mkD zbL zbv zbJ zaw zcn D.ids Op.operands Call.operands zby makeIfD makeFuncD typeAssertD zg9 zdw zdx zg1 zcv IntKind.bits zcN List.take_of_length_le List.range_succ
attribute [local irreducible] V G H HD HD2 HD4 zjP RetX zao Eff CallP CallV EndOK Fun Ret FinOK LoopI LoopW EndW
abbrev zju : Ob := .box [.u (.int .i64 0), .u (.int .i64 0), .u (.int .i64 0), .u (.str []), .u .nil]
theorem zhZ (i j q nx : Nat) (hi : i < nx) (hj : j < nx) (hq : q < nx) (hij : i ≠ j) (hiq : i ≠ q) (hjq : j ≠ q) (p e pos err : Int) (a b c : Int) (t : List UInt8) (g : U) :
  RetDf Tryz.prog 40 [.ptr i 0, .ptr j 0, .ptr q 0] [(i, .box [.u (.int .i64 p)]), (j, .box [.u (.int .i64 e)]), (q, .box [.u (.int .i64 a), .u (.int .i64 b), .u (.int .i64 c), .u (.str t), .u g])] nx (.panicking (chP pos err))
   (fun u o n => settle u = .returning /\ n = nx /\ o = [(i, .box [.u (.int .i64 pos)]), (j, .box [.u (.int .i64 err)]), (q, zju)]) := by
 have hne := zaE hi;have hne2 := zaE hj;have hne3 := zaE hq;have hc0 := zgU i j nx hi hj hij p e pos err;refine RetDf.of_body Tryz.func40 rfl (by simp) (by simp) rfl fun Γ hn => ?_;simp [entry, zjV, chP, Tryz.ntmps40];refine CallP.x2 hc0 (by simp [getK]) (by simp [getK, hij, Ne.symm hij]) hij rfl rfl (by simp) (by simp) (fun d o1 nx' hnx h => ?_) (fun ch o1 nx' hnx h => by cases h.1);obtain ⟨h1, rfl, h4⟩ := h;have h4 := h4.symm;subst h4;cases h1;simp [del, hij, Ne.symm hij, hiq, hjq, Ne.symm hiq, Ne.symm hjq]
 repeat' (first
  | ((first | refine zaf ?_ | refine zaj ?_ | refine zai ?_ | refine zat ?_ | fail); simp [hij, hiq, hjq])
  | fail)
 (refine ⟨by simp, { n := _, env := [], obs := [(i, .box [.u (.int .i64 pos)]), (j, .box [.u (.int .i64 err)]), (q, zju)], next := nx }, (Wk.cut rfl (by simp [hn]) (by simp [wkO, zaa, getK, zab, zac, Ob.under, D.under, zad, zah, hi, hj, hq, hne, hne2, hne3, hij, hiq, hjq, Ne.symm hij, Ne.symm hiq, Ne.symm hjq]) (by simp [wkU, zak, zaa, getK, D.under, hi, hj, hq, hne, hne2, hne3, hij, hiq, hjq, Ne.symm hij, Ne.symm hiq, Ne.symm hjq]) (by simp [wkE, zak, zaa, getK, hi, hj, hq, hne, hne2, hne3, hij, hiq, hjq, Ne.symm hij, Ne.symm hiq, Ne.symm hjq])), by simp [hn], ?_⟩; try simp)
 all_goals rfl
theorem zmM {s : List UInt8} : ∀ (f p : Nat) (l : List Tok), zmN f s p = .ok l -> s.length < p + f -> p <= s.length ->
  (∀ (i : Nat) (t : Tok), l[i]? = some t -> t.kind ≠ 0 -> i + 1 < l.length) /\ l.length <= s.length - p + 1 /\ 0 < l.length
 | 0, p, l, _, h2, h3 => by omega
 | f + 1, p, l, h, h2, h3 => by
  rw [zmN] at h;have hle := zdB zbZ (s.drop p);rw [List.length_drop] at hle;split at h
  ·cases h;refine ⟨fun i t hi hk => ?_, by simp, by simp⟩;rcases i with _ | i
   ·simp at hi;subst hi;exact absurd rfl hk
   ·simp at hi
  ·rename_i c r hd;have hdl : (s.drop (p + zcp zbZ (s.drop p))).length = r.length + 1 := by rw [hd]; rfl
   rw [List.length_drop] at hdl;split at h
   ·cases h
   ·rename_i t ht;obtain ⟨ht1, ht2⟩ := zfA ht;simp only [List.length_cons] at ht2;split at h
    ·cases h
    ·rename_i l' hl';cases h;obtain ⟨g1, g2, g3⟩ := zmM f _ l' hl' (by omega) (by omega);refine ⟨fun i t' hi hk => ?_, by simp only [List.length_cons]; omega, by simp⟩;rcases i with _ | i
     ·simp; exact g3
     ·simp only [List.getElem?_cons_succ] at hi;have := g1 i t' hi hk;simp only [List.length_cons];omega
theorem zmL {s : List UInt8} {l : List Tok} (h : zkA s = .ok l) : TokOK l /\ l.length <= 2001 /\ 0 < l.length := by
 unfold zkA at h;split at h
 ·cases h
 ·obtain ⟨g1, g2, g3⟩ := zmM _ _ _ h (by omega) (by omega);exact ⟨⟨g1, by omega⟩, by omega, g3⟩
theorem Exp.zjL {op n u : Int} {s : List UInt8} {args : List Exp} {B : Int} (h : ∀ x ∈ args, x.lev <= B) (h0 : 0 <= B) : (Exp.mk op n u s args).lev <= B + 1 := by
 rw [Exp.zgZ];simp only [Exp.args];have : ∀ (l : List Int) (a : Int), a <= B -> (∀ x ∈ l, x <= B) -> l.foldl max a <= B := by
  intro l
  induction l with
  | nil => intro a ha _; exact ha
  | cons b l ih => intro a ha hl; exact ih _ (by have := hl b (by simp); omega) fun x hx => hl x (by simp [hx])
 have := this (args.map Exp.lev) 0 h0 (fun x hx => by obtain ⟨y, hy, rfl⟩ := List.mem_map.1 hx; exact h y hy);omega
theorem zgx {l : List Tok} : ∀ (f : Nat),
  (∀ p form e q, zed l f p form = .ok e q -> e.lev <= f * f + 1) /\
  (∀ form e own p e' q, zeM l f form e own p = .ok e' q -> e'.lev <= max e.lev (f * f + 1) + f) /\
  (∀ p form e q, zbt l f p form = .ok e q -> e.1.lev <= f * f + 1) /\
  (∀ p e q, za3 l f p = .ok e q -> e.lev <= f * f + 1)
 | 0 => ⟨fun _ _ _ _ h => by simp [zed] at h, fun _ _ _ _ _ _ h => by simp [zeM] at h, fun _ _ _ _ h => by simp [zbt] at h, fun _ _ _ h => by simp [za3] at h⟩
 | f + 1 => by
  obtain ⟨he, hlo, hpr, hpm⟩ := zgx f;have hsq : ((f + 1 : Nat) : Int) * ((f + 1 : Nat) : Int) = (f : Int) * f + 2 * f + 1 := by
   rw [show ((f + 1 : Nat) : Int) = (f : Int) + 1 by omega, Int.add_mul, Int.mul_add]; omega
  rw [hsq];have h0 : (0 : Int) <= (f : Int) * f := Int.mul_nonneg (by omega) (by omega);generalize hF : (f : Int) * f = F at *;refine ⟨fun p form e q h => ?_, fun form e own p e' q h => ?_, fun p form e q h => ?_, fun p e q h => ?_⟩
  ·rw [zed] at h;obtain ⟨a, r, h1, h2⟩ := PR.zaH h;have g1 := hpr _ _ _ _ h1;have g2 := hlo _ _ _ _ _ _ h2;omega
  ·rw [zeM] at h;split at h
   ·cases h; omega
   ·split at h
    ·cases h; omega
    ·obtain ⟨a, r, h1, h2⟩ := PR.zaH h;have g1 := he _ _ _ _ h1;have g2 := hlo _ _ _ _ _ _ h2;rename_i x _ _;have g3 := Exp.zjL (op := x.op) (n := 0) (u := 0) (s := []) (args := [e, a]) (B := max e.lev (F + 1)) (by
      intro y hy;simp only [List.mem_cons, List.not_mem_nil, or_false] at hy;rcases hy with rfl | rfl <;> omega) (by omega)
     omega
  ·rw [zbt] at h;split at h
   ·obtain ⟨a, r, h1, h⟩ := PR.zaH h;obtain ⟨_, r2, h2, h⟩ := PR.zaH h;obtain ⟨b, r3, h3, h⟩ := PR.zaH h;obtain ⟨_, r4, h4, h⟩ := PR.zaH h;obtain ⟨c, r5, h5, h⟩ := PR.zaH h;cases h;have g1 := he _ _ _ _ h1;have g3 := he _ _ _ _ h3;have g5 := he _ _ _ _ h5;have := Exp.zjL (op := 13) (n := 0) (u := 0) (s := []) (args := [a, b, c]) (B := F + 1) (by
     intro y hy;simp only [List.mem_cons, List.not_mem_nil, or_false] at hy;rcases hy with rfl | rfl | rfl <;> omega) (by omega)
    simp only;omega
   ·split at h
    ·obtain ⟨a, r, h1, h⟩ := PR.zaH h;cases h;have g1 := he _ _ _ _ h1;have := Exp.zjL (op := 12) (n := 0) (u := 0) (s := []) (args := [a]) (B := F + 1) (by
      intro y hy;simp only [List.mem_cons, List.not_mem_nil, or_false] at hy;rcases hy with rfl; omega) (by omega)
     simp only;omega
    ·obtain ⟨a, r, h1, h⟩ := PR.zaH h;cases h;have g1 := hpm _ _ _ h1;simp only;omega
  ·have leaf : ∀ (op n u : Int) (s : List UInt8), (Exp.mk op n u s []).lev <= F + 2 * f + 1 + 1 := fun op n u s => by
    have := Exp.zjL (op := op) (n := n) (u := u) (s := s) (args := []) (B := 0) (by simp) (by omega);omega
   rw [za3] at h;split at h
   ·cases h
   ·split at h
    ·obtain ⟨a, r, h1, h⟩ := PR.zaH h;cases h; exact leaf ..
    split at h
    ·cases h; exact leaf ..
    split at h
    ·cases h; exact leaf ..
    split at h
    ·obtain ⟨_, r2, h2, h⟩ := PR.zaH h;obtain ⟨a, r3, h3, h⟩ := PR.zaH h;obtain ⟨_, r4, h4, h⟩ := PR.zaH h;obtain ⟨b, r5, h5, h⟩ := PR.zaH h;obtain ⟨_, r6, h6, h⟩ := PR.zaH h;have g3 := he _ _ _ _ h3;have g5 := he _ _ _ _ h5;have := Exp.zjL (op := if isB l p [109, 97, 120] = true then 7 else 6) (n := 0) (u := 0) (s := []) (args := [a, b]) (B := F + 1) (by
      intro y hy;simp only [List.mem_cons, List.not_mem_nil, or_false] at hy;rcases hy with rfl | rfl <;> omega) (by omega)
     cases h;omega
    split at h
    ·obtain ⟨a, r3, h3, h⟩ := PR.zaH h;obtain ⟨_, r4, h4, h⟩ := PR.zaH h;cases h;have g3 := he _ _ _ _ h3;omega
    split at h
    ·cases h; exact leaf ..
    ·cases h
def zkH (l : List Tok) (p : Nat) : Int := match l[p]? with | some t => t.kind | none => 0
def zdN : Exp := .mk 0 0 0 [] []
def zfT (s : List UInt8) : Exp × Int × Int := match zkA s with
 | .error (p, e) => (zdN, p, e)
 | .ok l => match zed l (4 * l.length + 3) 0 0 with
  | .stop pos e => (zdN, pos, e)
  | .ok y q => if zkH l q ≠ 0 then (zdN, zc0 l q, 12) else if 12 < y.lev then (zdN, zc0 l q, 6) else (y, 0, 0)
theorem zmC {c : UInt8} {r : List UInt8} {e : Int} (h : zg2 (c :: r) = .error e) : e ≠ 0 := by
 unfold zg2 at h;simp only at h;split at h
 ·split at h <;> cases h;omega
 ·split at h
  ·split at h <;> cases h;omega
  ·split at h <;> cases h;omega
theorem zkB {s : List UInt8} : ∀ (f p : Nat) (q : Nat) (e : Int), zmN f s p = .error (q, e) -> p <= s.length -> e ≠ 0 /\ q <= s.length
 | 0, p, q, e, h, _ => by simp [zmN] at h
 | f + 1, p, q, e, h, h3 => by
  rw [zmN] at h;have hle := zdB zbZ (s.drop p);rw [List.length_drop] at hle;split at h
  ·cases h
  ·rename_i c r hd;have hdl : (s.drop (p + zcp zbZ (s.drop p))).length = r.length + 1 := by rw [hd]; rfl
   rw [List.length_drop] at hdl;split at h
   ·rename_i ht;cases h;exact ⟨zmC ht, by omega⟩
   ·rename_i t ht;obtain ⟨ht1, ht2⟩ := zfA ht;simp only [List.length_cons] at ht2;split at h
    ·rename_i x hx;cases h;exact zkB f _ q e hx (by omega)
    ·cases h
theorem zkz {s : List UInt8} {q : Nat} {e : Int} (h : zkA s = .error (q, e)) : e ≠ 0 /\ q <= s.length := by
 unfold zkA at h;split at h
 ·cases h; exact ⟨by decide, by omega⟩
 ·exact zkB _ _ _ _ h (by omega)
def zoJ (r : Exp × Int × Int) : D := .tup [.u (.agg r.1.row), .u (.int .i64 r.2.1), .u (.int .i64 r.2.2)]
theorem zi7 (s : List UInt8) : RetX Tryz.prog 12 [.u (.str s)] [] 0 (fun r o n => r = .val (zoJ (zfT s))) := by
 unfold zfT;cases hlx : zkA s with
 | error pe =>
  obtain ⟨p, e⟩ := pe;have ho := fun nx => zku s p e nx hlx;have he := (zkz hlx).1;simp only
  (refine RetX.zdp Tryz.func12 rfl (by simp) fun Γ hn hdfr hpan hesc => ?_); simp only [entry, ziC, ziN, maC, maN, oA, Tryz.ntmps12]
  repeat' (first
  | ((first | refine zaf ?_ | refine zaR rfl ?_ | refine zcb rfl ?_ | refine zaj ?_ | refine zag ?_ | refine zai ?_ | fail); simp [he])
  | (refine zaX (hC _ (by kernel_rfl)) (hk _ ?_); clear hC hk C k; simp only [zao])
  | (refine za2 rfl (by kernel_rfl) (by first | (simp [hn]; done) | (simp [hn]; omega) | fail) fun C k hC hk => ?_; simp [he])
  | (refine zap ?_; simp only [zao])
  | (refine CallP.okL (ho _) (by first | (simp [he, zaa, getK, zab, zac, zam, zaL, del]; done) | fail) (by rfl) (by rfl) ?_; (try simp [he, zc5, del]))
  | fail)
  refine EndW.norm ?_;simp [St.norm, zbi, zb2, zcq, zcr]
  (refine EndW.here ?_; (first | (refine EndOK.fin (.inr rfl) ?_) | (refine EndOK.fin (.inl rfl) ?_)); simp [zay, zae, Tryz.results12]; refine FinOK.here (by simp) ?_; try simp)
  simp [zoJ, Exp.row, zdN]
 | ok l =>
  obtain ⟨hl, hl2, hl0⟩ := zmL hlx;have ho := fun nx => zmv s l nx hlx;have hE := (zi5 hl (4 * l.length + 3)).1 0 0 3 4 (by omega) hl0 (by omega) (by omega) (by omega);simp only;cases hr : zed l (4 * l.length + 3) 0 0 with
  | stop pos e =>
   simp only [hr] at hE ⊢
   (refine RetX.zdp Tryz.func12 rfl (by simp) fun Γ hn hdfr hpan hesc => ?_); simp only [entry, ziC, ziN, maC, maN, oA, Tryz.ntmps12]
   rw [zdr]
   repeat' (first
  | ((first | refine zaf ?_ | refine zaj ?_ | refine zag ?_ | refine zai ?_ | fail); simp)
  | (refine zar ?_; simp only [zao])
  | (refine CallP.okL (ho _) (by first | (simp [zaa, getK, zab, zac, zam, zaL, del]; done) | fail) (by rfl) (by rfl) ?_; (try simp [zc5, del]))
  | fail)
   refine zfN hesc hdfr rfl (by simp) ?_;have hn0 := hn;have hpan0 := hpan;intro Γ' hn hpan;simp
   repeat' (first
  | ((first | refine zaf ?_ | refine zag ?_ | fail); simp)
  | (refine CallP.zeg (hE) (by first | (simp [zaa, getK, zab, zac]; done) | fail) (by rfl) (by first | assumption | (simp; done) | fail) (by rfl) (by simp) ?_; rintro ob' ⟨q', rfl⟩; refine ⟨_, Wk.refl _, ?_⟩)
  | fail)
   refine hpan _ _ ?_;refine LeaveD.of [(1, .box [.u (.int .i64 0)]), (2, .box [.u (.int .i64 0)]), (0, zju)] (by simp [zaa, getK, zab, zac]) (zhZ 1 2 0 _ (by simp) (by simp) (by simp) (by decide) (by decide) (by decide) 0 0 _ _ 0 0 0 [] .nil) ?_;simp only [show Γ.base.n0 = 0 from hn0];simp [zc5, del];refine EndW.norm ?_;simp [St.norm, zbi, zb2, zcq, zcr]
   (refine EndW.here ?_; (first | (refine EndOK.fin (.inr rfl) ?_) | (refine EndOK.fin (.inl rfl) ?_)); simp [zay, zae, Tryz.results12]; refine FinOK.here (by simp) ?_; try simp)
   simp [zoJ, Exp.row, zdN]
  | ok y q =>
   have hEx := zdk hE hr;obtain ⟨g0a, g0b⟩ := (zci hl _).1 _ _ _ _ hr hl0;have hlev := (zgx (l := l) _).1 _ _ _ _ hr;have hlev2 : y.lev <= 1000000000 := by
    have h1 : ((4 * l.length + 3 : Nat) : Int) * ((4 * l.length + 3 : Nat) : Int) <= 8007 * 8007 := Int.mul_le_mul (by omega) (by omega) (by omega) (by omega);omega
   have hlv := zhs (SizeOf.sizeOf y) y (Nat.le_refl _) hlev2;rw [Exp.row_eq] at hlv;obtain ⟨t, ht⟩ : ∃ t, l[q]? = some t := ⟨_, List.getElem?_eq_getElem g0b⟩;have hnx := zb1 l q t ht hl.len;have hka : zkH l q = t.kind := by unfold zkH; rw [ht]
   have hpa : zc0 l q = t.pos := by unfold zc0; rw [ht]
   simp only [hka, hpa];by_cases hk : t.kind = 0
   ·have hc1 := fun nx (h : 3 < nx) => zdF l q 12 3 nx h;rw [if_neg (by simp [hk])];by_cases hv : 12 < y.lev
    ·have hc2 := fun nx (h : 3 < nx) => zcM l q t 6 3 nx h ht hl.len;have hv2 : ¬ y.lev <= 12 := by omega
     rw [if_pos hv]
     (refine RetX.zdp Tryz.func12 rfl (by simp) fun Γ hn hdfr hpan hesc => ?_); simp only [entry, ziC, ziN, maC, maN, oA, Tryz.ntmps12]
     rw [zdr]
     repeat' (first
  | ((first | refine zaf ?_ | refine zaj ?_ | refine zag ?_ | refine zai ?_ | fail); simp)
  | (refine zar ?_; simp only [zao])
  | (refine CallP.okL (ho _) (by first | (simp [zaa, getK, zab, zac, zam, zaL, del]; done) | fail) (by rfl) (by rfl) ?_; (try simp [zc5, del]))
  | fail)
     refine zfN hesc hdfr rfl (by simp) ?_;have hn0 := hn;have hpan0 := hpan;intro Γ' hn hpan;simp
     repeat' (first
  | ((first | refine zaf ?_ | refine zaj ?_ | refine zag ?_ | fail); simp [hk, hv, hv2, del])
  | (refine CallP.fE (hlv) (by first | rfl | fail) (by first | simp [hk, hv, hv2, del] <;> rfl | fail) ?_; (try simp [hk, hv, hv2, del]))
  | (refine CallP.fE (hnx) (by first | rfl | fail) (by first | simp [hk, hv, hv2, del] <;> rfl | fail) ?_; (try simp [hk, hv, hv2, del]))
  | (refine CallP.ok1 (hEx) (by first | (simp [hk, hv, hv2, del, zaa, getK, zab, zac]; done) | fail) (by rfl) (by rfl) ?_; (try simp [hk, hv, hv2, del]))
  | (refine CallP.ok1 (hc1 _ (by simp)) (by first | (simp [hk, hv, hv2, del, zaa, getK, zab, zac]; done) | fail) (by rfl) (by rfl) ?_; (try simp [hk, hv, hv2, del]))
  | (refine CallP.zeg (hc2 _ (by simp)) (by first | (simp [hk, hv, hv2, del, zaa, getK, zab, zac]; done) | fail) (by rfl) (by first | assumption | (simp; done) | fail) (by rfl) (by simp) ?_; rintro ob' ⟨q', rfl⟩; refine ⟨_, Wk.refl _, ?_⟩)
  | fail)
     refine hpan _ _ ?_;refine LeaveD.of [(1, .box [.u (.int .i64 0)]), (2, .box [.u (.int .i64 0)]), (0, zju)] (by simp [zaa, getK, zab, zac]) (zhZ 1 2 0 _ (by simp) (by simp) (by simp) (by decide) (by decide) (by decide) 0 0 _ _ 0 0 0 [] .nil) ?_;simp only [show Γ.base.n0 = 0 from hn0];simp [zc5, del];refine EndW.norm ?_;simp [St.norm, zbi, zb2, zcq, zcr]
     (refine EndW.here ?_; (first | (refine EndOK.fin (.inr rfl) ?_) | (refine EndOK.fin (.inl rfl) ?_)); simp [zay, zae, Tryz.results12]; refine FinOK.here (by simp) ?_; try simp)
     simp [zoJ, Exp.row, zdN]
    ·have hc2 := fun nx (h : 3 < nx) => zdF l q 6 3 nx h;have hv2 : y.lev <= 12 := by omega
     rw [if_neg hv]
     (refine RetX.zdp Tryz.func12 rfl (by simp) fun Γ hn hdfr hpan hesc => ?_); simp only [entry, ziC, ziN, maC, maN, oA, Tryz.ntmps12]
     rw [zdr]
     repeat' (first
  | ((first | refine zaf ?_ | refine zaj ?_ | refine zag ?_ | refine zai ?_ | fail); simp)
  | (refine zar ?_; simp only [zao])
  | (refine CallP.okL (ho _) (by first | (simp [zaa, getK, zab, zac, zam, zaL, del]; done) | fail) (by rfl) (by rfl) ?_; (try simp [zc5, del]))
  | fail)
     refine zfN hesc hdfr rfl (by simp) ?_;have hn0 := hn;have hpan0 := hpan;intro Γ' hn hpan;simp
     repeat' (first
  | ((first | refine zaf ?_ | refine zaj ?_ | refine zag ?_ | fail); simp [hk, hv, hv2, del])
  | (refine zap ?_; simp only [zao])
  | (refine CallP.fE (hlv) (by first | rfl | fail) (by first | simp [hk, hv, hv2, del] <;> rfl | fail) ?_; (try simp [hk, hv, hv2, del]))
  | (refine CallP.fE (hnx) (by first | rfl | fail) (by first | simp [hk, hv, hv2, del] <;> rfl | fail) ?_; (try simp [hk, hv, hv2, del]))
  | (refine CallP.ok1 (hEx) (by first | (simp [hk, hv, hv2, del, zaa, getK, zab, zac]; done) | fail) (by rfl) (by rfl) ?_; (try simp [hk, hv, hv2, del]))
  | (refine CallP.ok1 (hc1 _ (by simp)) (by first | (simp [hk, hv, hv2, del, zaa, getK, zab, zac]; done) | fail) (by rfl) (by rfl) ?_; (try simp [hk, hv, hv2, del]))
  | (refine CallP.ok1 (hc2 _ (by simp)) (by first | (simp [hk, hv, hv2, del, zaa, getK, zab, zac]; done) | fail) (by rfl) (by rfl) ?_; (try simp [hk, hv, hv2, del]))
  | fail)
     refine ⟨rfl, ?_⟩;refine LeaveD.of [(1, .box [.u (.int .i64 0)]), (2, .box [.u (.int .i64 0)]), (0, .box ([.int .i64 y.op, .int .i64 y.n, .int .i64 y.unit, .str y.s, .sl (y.args.map Exp.row)].map .u))] (by simp [zaa, getK, zab, zac]) (znP 1 2 0 _ (by simp) (by simp) (by simp) (by decide) (by decide) (by decide) 0 0 _) ?_;simp only [show Γ.base.n0 = 0 from hn0];simp [zc5, del]
     (refine EndW.here ?_; (first | (refine EndOK.fin (.inr rfl) ?_) | (refine EndOK.fin (.inl rfl) ?_)); simp [zay, zae, Tryz.results12]; refine FinOK.here (by simp) ?_; try simp)
     simp [zoJ, Exp.row_eq]
   ·have hc1 := fun nx (h : 3 < nx) => zcM l q t 12 3 nx h ht hl.len;rw [if_pos hk]
    (refine RetX.zdp Tryz.func12 rfl (by simp) fun Γ hn hdfr hpan hesc => ?_); simp only [entry, ziC, ziN, maC, maN, oA, Tryz.ntmps12]
    rw [zdr]
    repeat' (first
  | ((first | refine zaf ?_ | refine zaj ?_ | refine zag ?_ | refine zai ?_ | fail); simp)
  | (refine zar ?_; simp only [zao])
  | (refine CallP.okL (ho _) (by first | (simp [zaa, getK, zab, zac, zam, zaL, del]; done) | fail) (by rfl) (by rfl) ?_; (try simp [zc5, del]))
  | fail)
    refine zfN hesc hdfr rfl (by simp) ?_;have hn0 := hn;have hpan0 := hpan;intro Γ' hn hpan;simp
    repeat' (first
  | ((first | refine zaf ?_ | refine zaj ?_ | refine zag ?_ | fail); simp [hk, del])
  | (refine CallP.fE (hnx) (by first | rfl | fail) (by first | simp [hk, del] <;> rfl | fail) ?_; (try simp [hk, del]))
  | (refine CallP.ok1 (hEx) (by first | (simp [hk, del, zaa, getK, zab, zac]; done) | fail) (by rfl) (by rfl) ?_; (try simp [hk, del]))
  | (refine CallP.zeg (hc1 _ (by simp)) (by first | (simp [hk, del, zaa, getK, zab, zac]; done) | fail) (by rfl) (by first | assumption | (simp; done) | fail) (by rfl) (by simp) ?_; rintro ob' ⟨q', rfl⟩; refine ⟨_, Wk.refl _, ?_⟩)
  | fail)
    refine hpan _ _ ?_;refine LeaveD.of [(1, .box [.u (.int .i64 0)]), (2, .box [.u (.int .i64 0)]), (0, zju)] (by simp [zaa, getK, zab, zac]) (zhZ 1 2 0 _ (by simp) (by simp) (by simp) (by decide) (by decide) (by decide) 0 0 _ _ 0 0 0 [] .nil) ?_;simp only [show Γ.base.n0 = 0 from hn0];simp [zc5, del];refine EndW.norm ?_;simp [St.norm, zbi, zb2, zcq, zcr]
    (refine EndW.here ?_; (first | (refine EndOK.fin (.inr rfl) ?_) | (refine EndOK.fin (.inl rfl) ?_)); simp [zay, zae, Tryz.results12]; refine FinOK.here (by simp) ?_; try simp)
    simp [zoJ, Exp.row, zdN]
theorem zi8 (s : List UInt8) : Fun Tryz.prog 12 [.u (.str s)] (· = .tup [ze2 (zfT s).1, .u (.int .i64 (zfT s).2.1), .u (.int .i64 (zfT s).2.2)]) := by
 unfold Fun;exact (zi7 s).ret (fun d o n h => by
  cases h;refine ⟨by simp [zoJ, zaq], ?_⟩;rw [zoJ, Exp.row_eq];rfl) (fun ch o n h => by cases h)
theorem zls (l : List Tok) (p : Nat) (a b : Int) (i nx : Nat) (hi : i < nx) (hp : p < l.length) (hl : TokOK l) :
  RetX Tryz.prog 128 [.ptr i 0, zid a, zid b] [(i, pOb l p)] nx (PPost l i nx zid (zpC l p a b)) := by
 have hne := zaE hi;obtain ⟨t, ht⟩ : ∃ t, l[p]? = some t := ⟨_, List.getElem?_eq_getElem hp⟩;have hnx := zb1 l p t ht hl.len;have hll := hl.len;have hc1 := fun e nx' (h : nx <= nx') => zdF l p e i nx' (by omega);have hc2 := fun e nx' (h : nx <= nx') => zcM l p t e i nx' (by omega) ht hl.len;rw [zpC, ht];by_cases hk2 : t.kind = 2
 ·simp only [hk2, if_true];by_cases h1 : a <= t.n
  ·by_cases h2 : t.n <= b
   ·simp only [h1, h2, and_self, if_true]
    (refine RetX.of_bodyW Tryz.func128 rfl (by simp) fun Γ hn hpan => ?_); simp only [entry, ziC, ziN, maC, maN, oA, Tryz.ntmps128]
    repeat' (first
  | ((first | refine zaf ?_ | refine zaj ?_ | fail); simp [hne, hk2, h1, h2, del])
  | (refine ⟨by omega, ?_⟩)
  | (refine zag ?_; simp [hne, hk2, h1, h2, del])
  | (refine zap ?_; simp only [zao])
  | (refine CallP.fE (hnx) (by first | rfl | fail) (by first | simp [hne, hk2, h1, h2, del] <;> rfl | fail) ?_; (try simp [hne, hk2, h1, h2, del]))
  | (refine CallP.ok1 (hc1 _ _ (by first | omega | simp <;> omega | fail)) (by first | (simp [hne, hk2, h1, h2, del, zaa, getK, zab, zac]; done) | fail) (by rfl) (by rfl) ?_; (try simp [hne, hk2, h1, h2, del]))
  | fail)
    (refine EndW.here ?_; (first | (refine EndOK.fin (.inr rfl) ?_) | (refine EndOK.fin (.inl rfl) ?_)); simp [zay, zae, Tryz.results128, hne, hi]; refine FinOK.cut [(i, pOb l (p + 1))] (nx) (by simp [zaa, getK, zab, zac, Ob.under, D.under, zad, zah, hne, hi] <;> omega) (by simp [D.under]) (by simp [hn]) ?_; try simp)
    exact PPost.zct rfl rfl rfl
   ·simp only [h1, h2, and_false, if_false]
    (refine RetX.of_bodyW Tryz.func128 rfl (by simp) fun Γ hn hpan => ?_); simp only [entry, ziC, ziN, maC, maN, oA, Tryz.ntmps128]
    repeat' (first
  | ((first | refine zaf ?_ | refine zaj ?_ | refine zag ?_ | fail); simp [hne, hk2, h1, h2, del])
  | (refine CallP.fE (hnx) (by first | rfl | fail) (by first | simp [hne, hk2, h1, h2, del] <;> rfl | fail) ?_; (try simp [hne, hk2, h1, h2, del]))
  | (refine CallP.ok1 (hc1 _ _ (by first | omega | simp <;> omega | fail)) (by first | (simp [hne, hk2, h1, h2, del, zaa, getK, zab, zac]; done) | fail) (by rfl) (by rfl) ?_; (try simp [hne, hk2, h1, h2, del]))
  | (refine CallP.zeg (hc2 _ _ (by first | omega | simp <;> omega | fail)) (by first | (simp [hne, hk2, h1, h2, del, zaa, getK, zab, zac]; done) | fail) (by rfl) (by first | assumption | (simp; done) | fail) (by rfl) (by simp) ?_; rintro ob' ⟨q', rfl⟩; refine ⟨_, Wk.refl _, ?_⟩)
  | fail)
    (refine hpan _ _ ⟨{ n := _, env := [], obs := [(i, pOb l q')], next := nx }, (Wk.cut rfl (by simp [hn]) (by simp [wkO, zaa, getK, zab, zac, Ob.under, D.under, zad, zah, hi, hne, zab, zac, zaa, getK]) (by simp [wkU, zak, zaa, getK, D.under, hi, hne, zab, zac, zaa, getK]) (by simp [wkE, zak, zaa, getK, hi, hne, zab, zac, zaa, getK])), by simp [hn], ?_⟩; try simp)
    exact PPost.zaA (by simp [PR.bind, *])
  ·simp only [h1, false_and, if_false]
   (refine RetX.of_bodyW Tryz.func128 rfl (by simp) fun Γ hn hpan => ?_); simp only [entry, ziC, ziN, maC, maN, oA, Tryz.ntmps128]
   repeat' (first
  | ((first | refine zaf ?_ | refine zaj ?_ | refine zag ?_ | fail); simp [hne, hk2, h1, del])
  | (refine CallP.fE (hnx) (by first | rfl | fail) (by first | simp [hne, hk2, h1, del] <;> rfl | fail) ?_; (try simp [hne, hk2, h1, del]))
  | (refine CallP.ok1 (hc1 _ _ (by first | omega | simp <;> omega | fail)) (by first | (simp [hne, hk2, h1, del, zaa, getK, zab, zac]; done) | fail) (by rfl) (by rfl) ?_; (try simp [hne, hk2, h1, del]))
  | (refine CallP.zeg (hc2 _ _ (by first | omega | simp <;> omega | fail)) (by first | (simp [hne, hk2, h1, del, zaa, getK, zab, zac]; done) | fail) (by rfl) (by first | assumption | (simp; done) | fail) (by rfl) (by simp) ?_; rintro ob' ⟨q', rfl⟩; refine ⟨_, Wk.refl _, ?_⟩)
  | fail)
   (refine hpan _ _ ⟨{ n := _, env := [], obs := [(i, pOb l q')], next := nx }, (Wk.cut rfl (by simp [hn]) (by simp [wkO, zaa, getK, zab, zac, Ob.under, D.under, zad, zah, hi, hne, zab, zac, zaa, getK]) (by simp [wkU, zak, zaa, getK, D.under, hi, hne, zab, zac, zaa, getK]) (by simp [wkE, zak, zaa, getK, hi, hne, zab, zac, zaa, getK])), by simp [hn], ?_⟩; try simp)
   exact PPost.zaA (by simp [PR.bind, *])
 ·simp only [hk2, if_false]
  (refine RetX.of_bodyW Tryz.func128 rfl (by simp) fun Γ hn hpan => ?_); simp only [entry, ziC, ziN, maC, maN, oA, Tryz.ntmps128]
  repeat' (first
  | ((first | refine zaf ?_ | refine zaj ?_ | refine zag ?_ | fail); simp [hne, hk2, del])
  | (refine CallP.fE (hnx) (by first | rfl | fail) (by first | simp [hne, hk2, del] <;> rfl | fail) ?_; (try simp [hne, hk2, del]))
  | (refine CallP.zeg (hc2 _ _ (by first | omega | simp <;> omega | fail)) (by first | (simp [hne, hk2, del, zaa, getK, zab, zac]; done) | fail) (by rfl) (by first | assumption | (simp; done) | fail) (by rfl) (by simp) ?_; rintro ob' ⟨q', rfl⟩; refine ⟨_, Wk.refl _, ?_⟩)
  | fail)
  (refine hpan _ _ ⟨{ n := _, env := [], obs := [(i, pOb l q')], next := nx }, (Wk.cut rfl (by simp [hn]) (by simp [wkO, zaa, getK, zab, zac, Ob.under, D.under, zad, zah, hi, hne, zab, zac, zaa, getK]) (by simp [wkU, zak, zaa, getK, D.under, hi, hne, zab, zac, zaa, getK]) (by simp [wkE, zak, zaa, getK, hi, hne, zab, zac, zaa, getK])), by simp [hn], ?_⟩; try simp)
  exact PPost.zaA (by simp [PR.bind, *])
theorem zmz {l : List Tok} (hl : TokOK l) {p q : Nat} {a b n : Int} (h : zpC l p a b = .ok n q) : p <= q /\ q < l.length := by
 unfold zpC at h;split at h
 ·cases h
 ·rename_i t ht;split at h
  ·rename_i hk2;split at h
   ·cases h;exact ⟨by omega, hl.fin p t ht (by omega)⟩
   ·cases h
  ·cases h
theorem zdC (l : List Tok) (p : Nat) (w : List UInt8) (a b : Int) (ws : List (List UInt8)) (i nx : Nat) (hi : i < nx) (hp : p < l.length) (hl : TokOK l) (hw : ws.length <= 100) :
  RetX Tryz.prog 80 [.ptr i 0, .u (.str w), zid a, zid b, .u (.sl (ws.map fun w => [.str w]))] [(i, pOb l p)] nx (PPost l i nx zid (zdP l p w a b ws)) := by
 have hne := zaE hi;have hh1 := fun nx' (h : nx <= nx') => zbj l p w i nx' (by omega) hp hl.len;rw [zdP];cases hb : isB l p w with
 | false =>
  simp only [hb, Bool.false_eq_true, if_false] at hh1 ⊢
  (refine RetX.of_bodyW Tryz.func80 rfl (by simp) fun Γ hn hpan => ?_); simp only [entry, ziC, ziN, maC, maN, oA, Tryz.ntmps80]
  repeat' (first
  | ((first | refine zaf ?_ | refine zaj ?_ | refine zag ?_ | refine zai ?_ | fail); simp [hne, del])
  | (refine zap ?_; simp only [zao])
  | (refine CallP.ok1 (hh1 _ (by first | omega | simp <;> omega | fail)) (by first | (simp [hne, del, zaa, getK, zab, zac]; done) | fail) (by rfl) (by rfl) ?_; (try simp [hne, del]))
  | fail)
  (refine EndW.here ?_; (first | (refine EndOK.fin (.inr rfl) ?_) | (refine EndOK.fin (.inl rfl) ?_)); simp [zay, zae, Tryz.results80, hne, hi]; refine FinOK.cut [(i, pOb l p)] (nx) (by simp [zaa, getK, zab, zac, Ob.under, D.under, zad, zah, hne, hi] <;> omega) (by simp [D.under]) (by simp [hn]) ?_; try simp)
  exact PPost.zct rfl rfl rfl
 | true =>
  have hp2 := zbc hl hb;simp only [hb, if_true] at hh1 ⊢;have hn1 := fun nx' (h : nx <= nx') => zls l (p + 1) a b i nx' (by omega) hp2 hl;cases hr0 : zpC l (p + 1) a b with
  | stop pos e =>
   simp only [hr0] at hn1
   (refine RetX.of_bodyW Tryz.func80 rfl (by simp) fun Γ hn hpan => ?_); simp only [entry, ziC, ziN, maC, maN, oA, Tryz.ntmps80]
   repeat' (first
  | ((first | refine zaf ?_ | refine zaj ?_ | refine zag ?_ | refine zai ?_ | fail); simp [hne, del])
  | (refine zar ?_; simp only [zao])
  | (refine CallP.ok1 (hh1 _ (by first | omega | simp <;> omega | fail)) (by first | (simp [hne, del, zaa, getK, zab, zac]; done) | fail) (by rfl) (by rfl) ?_; (try simp [hne, del]))
  | (refine CallP.zeg (hn1 _ (by first | omega | simp <;> omega | fail)) (by first | (simp [hne, del, zaa, getK, zab, zac]; done) | fail) (by rfl) (by first | assumption | (simp; done) | fail) (by rfl) (by simp) ?_; rintro ob' ⟨q', rfl⟩; refine ⟨_, Wk.refl _, ?_⟩)
  | fail)
   (refine hpan _ _ ⟨{ n := _, env := [], obs := [(i, pOb l q')], next := nx }, (Wk.cut rfl (by simp [hn]) (by simp [wkO, zaa, getK, zab, zac, Ob.under, D.under, zad, zah, hi, hne, zab, zac, zaa, getK]) (by simp [wkU, zak, zaa, getK, D.under, hi, hne, zab, zac, zaa, getK]) (by simp [wkE, zak, zaa, getK, hi, hne, zab, zac, zaa, getK])), by simp [hn], ?_⟩; try simp)
   exact PPost.zaA (by simp [PR.bind, *])
  | ok n q0 =>
   simp only [hr0] at hn1;obtain ⟨g0a, g0b⟩ := zmz hl hr0;have hw1 := fun nx' (h : nx <= nx') => zhK l q0 ws i nx' (by omega) g0b hl hw;cases hr1 : zbS l q0 ws with
   | stop pos e =>
    simp only [hr1] at hw1
    (refine RetX.of_bodyW Tryz.func80 rfl (by simp) fun Γ hn hpan => ?_); simp only [entry, ziC, ziN, maC, maN, oA, Tryz.ntmps80]
    repeat' (first
  | ((first | refine zaf ?_ | refine zaj ?_ | refine zag ?_ | refine zai ?_ | fail); simp [hne, del])
  | (refine zar ?_; simp only [zao])
  | (refine CallP.ok1 (hh1 _ (by first | omega | simp <;> omega | fail)) (by first | (simp [hne, del, zaa, getK, zab, zac]; done) | fail) (by rfl) (by rfl) ?_; (try simp [hne, del]))
  | (refine CallP.ok1 (hn1 _ (by first | omega | simp <;> omega | fail)) (by first | (simp [hne, del, zaa, getK, zab, zac]; done) | fail) (by rfl) (by rfl) ?_; (try simp [hne, del]))
  | (refine CallP.zeg (hw1 _ (by first | omega | simp <;> omega | fail)) (by first | (simp [hne, del, zaa, getK, zab, zac]; done) | fail) (by rfl) (by first | assumption | (simp; done) | fail) (by rfl) (by simp) ?_; rintro ob' ⟨q', rfl⟩; refine ⟨_, Wk.refl _, ?_⟩)
  | fail)
    (refine hpan _ _ ⟨{ n := _, env := [], obs := [(i, pOb l q')], next := nx }, (Wk.cut rfl (by simp [hn]) (by simp [wkO, zaa, getK, zab, zac, Ob.under, D.under, zad, zah, hi, hne, zab, zac, zaa, getK]) (by simp [wkU, zak, zaa, getK, D.under, hi, hne, zab, zac, zaa, getK]) (by simp [wkE, zak, zaa, getK, hi, hne, zab, zac, zaa, getK])), by simp [hn], ?_⟩; try simp)
    exact PPost.zaA (by simp [PR.bind, *])
   | ok u q =>
    simp only [hr1] at hw1
    (refine RetX.of_bodyW Tryz.func80 rfl (by simp) fun Γ hn hpan => ?_); simp only [entry, ziC, ziN, maC, maN, oA, Tryz.ntmps80]
    repeat' (first
  | ((first | refine zaf ?_ | refine zaj ?_ | refine zag ?_ | refine zai ?_ | fail); simp [hne, del])
  | ((first | refine zap ?_ | refine zar ?_ | fail); simp only [zao])
  | (refine CallP.ok1 (hh1 _ (by first | omega | simp <;> omega | fail)) (by first | (simp [hne, del, zaa, getK, zab, zac]; done) | fail) (by rfl) (by rfl) ?_; (try simp [hne, del]))
  | (refine CallP.ok1 (hn1 _ (by first | omega | simp <;> omega | fail)) (by first | (simp [hne, del, zaa, getK, zab, zac]; done) | fail) (by rfl) (by rfl) ?_; (try simp [hne, del]))
  | (refine CallP.ok1 (hw1 _ (by first | omega | simp <;> omega | fail)) (by first | (simp [hne, del, zaa, getK, zab, zac]; done) | fail) (by rfl) (by rfl) ?_; (try simp [hne, del]))
  | fail)
    (refine EndW.here ?_; (first | (refine EndOK.fin (.inr rfl) ?_) | (refine EndOK.fin (.inl rfl) ?_)); simp [zay, zae, Tryz.results80, hne, hi]; refine FinOK.cut [(i, pOb l q)] (nx) (by simp [zaa, getK, zab, zac, Ob.under, D.under, zad, zah, hne, hi] <;> omega) (by simp [D.under]) (by simp [hn]) ?_; try simp)
    exact PPost.zct (by simp [PR.bind, *]) rfl rfl
theorem zdD {l : List Tok} (hl : TokOK l) {p q : Nat} {w : List UInt8} {a b n : Int} {ws : List (List UInt8)} (h : zdP l p w a b ws = .ok n q) (hp : p < l.length) : p <= q /\ q < l.length := by
 unfold zdP at h;split at h
 ·obtain ⟨m, r, h1, h⟩ := PR.zaH h;have g1 := zmz hl h1;obtain ⟨m2, r2, h2, h⟩ := PR.zaH h;have g2 := za1 hl _ h2 g1.2;cases h;exact ⟨by omega, g2.2⟩
 ·cases h; exact ⟨by omega, hp⟩
theorem zgk (l : List Tok) (p : Nat) (i nx : Nat) (hi : i < nx) (hp : p < l.length) (hl : TokOK l) (hl2 : l.length <= 2001) :
  RetX Tryz.prog 84 [.ptr i 0] [(i, pOb l p)] nx (PPost l i nx zee (zeb l p)) := by
 have hne := zaE hi;have hll := hl.len;rw [zeb];have hE := fun nx' (h : nx <= nx') => (zi5 hl (4 * l.length + 3)).1 p 0 i nx' (by omega) hp (by omega) (by omega) (by omega);cases hr : zed l (4 * l.length + 3) p 0 with
 | stop pos e =>
  simp only [hr] at hE
  (refine RetX.of_bodyW Tryz.func84 rfl (by simp) fun Γ hn hpan => ?_); simp only [entry, ziC, ziN, maC, maN, oA, Tryz.ntmps84]
  repeat' (first
  | ((first | refine zaf ?_ | refine zaj ?_ | refine zag ?_ | fail); simp [hne, del])
  | (refine CallP.zeg (hE _ (by first | omega | simp <;> omega | fail)) (by first | (simp [hne, del, zaa, getK, zab, zac]; done) | fail) (by rfl) (by first | assumption | (simp; done) | fail) (by rfl) (by simp) ?_; rintro ob' ⟨q', rfl⟩; refine ⟨_, Wk.refl _, ?_⟩)
  | fail)
  (refine hpan _ _ ⟨{ n := _, env := [], obs := [(i, pOb l q')], next := nx }, (Wk.cut rfl (by simp [hn]) (by simp [wkO, zaa, getK, zab, zac, Ob.under, D.under, zad, zah, hi, hne, zab, zac, zaa, getK]) (by simp [wkU, zak, zaa, getK, D.under, hi, hne, zab, zac, zaa, getK]) (by simp [wkE, zak, zaa, getK, hi, hne, zab, zac, zaa, getK])), by simp [hn], ?_⟩; try simp)
  exact PPost.zaA (by simp [PR.bind, *])
 | ok y q =>
  have hEx := fun nx' h => zdk (hE nx' h) hr;obtain ⟨g0a, g0b⟩ := (zci hl _).1 _ _ _ _ hr hp;have hlev := (zgx (l := l) _).1 _ _ _ _ hr;have hlev2 : y.lev <= 1000000000 := by
   have h1 : ((4 * l.length + 3 : Nat) : Int) * ((4 * l.length + 3 : Nat) : Int) <= 8007 * 8007 := Int.mul_le_mul (by omega) (by omega) (by omega) (by omega);omega
  have hlv := zhs (SizeOf.sizeOf y) y (Nat.le_refl _) hlev2;rw [Exp.row_eq] at hlv;obtain ⟨t, ht⟩ : ∃ t, l[q]? = some t := ⟨_, List.getElem?_eq_getElem g0b⟩;have his := zec l q [59] g0b hl.len;have hpa : zc0 l q = t.pos := by unfold zc0; rw [ht]
  have hc1 := fun e nx' (h : nx <= nx') => zdF l q e i nx' (by omega);have hc2 := fun e nx' (h : nx <= nx') => zcM l q t e i nx' (by omega) ht hl.len;rw [PR.zaV, hpa];cases hb : isB l q [59] with
  | false =>
   simp only [hb, Bool.false_eq_true, if_false] at his ⊢
   (refine RetX.of_bodyW Tryz.func84 rfl (by simp) fun Γ hn hpan => ?_); simp only [entry, ziC, ziN, maC, maN, oA, Tryz.ntmps84]
   repeat' (first
  | ((first | refine zaf ?_ | refine zaj ?_ | refine zag ?_ | fail); simp [hne, del])
  | (refine CallP.fE (his) (by first | rfl | fail) (by first | simp [hne, del] <;> rfl | fail) ?_; (try simp [hne, del]))
  | (refine CallP.ok1 (hEx _ (by first | omega | simp <;> omega | fail)) (by first | (simp [hne, del, zaa, getK, zab, zac]; done) | fail) (by rfl) (by rfl) ?_; (try simp [hne, del]))
  | (refine CallP.zeg (hc2 _ _ (by first | omega | simp <;> omega | fail)) (by first | (simp [hne, del, zaa, getK, zab, zac]; done) | fail) (by rfl) (by first | assumption | (simp; done) | fail) (by rfl) (by simp) ?_; rintro ob' ⟨q', rfl⟩; refine ⟨_, Wk.refl _, ?_⟩)
  | fail)
   (refine hpan _ _ ⟨{ n := _, env := [], obs := [(i, pOb l q')], next := nx }, (Wk.cut rfl (by simp [hn]) (by simp [wkO, zaa, getK, zab, zac, Ob.under, D.under, zad, zah, hi, hne, zab, zac, zaa, getK]) (by simp [wkU, zak, zaa, getK, D.under, hi, hne, zab, zac, zaa, getK]) (by simp [wkE, zak, zaa, getK, hi, hne, zab, zac, zaa, getK])), by simp [hn], ?_⟩; try simp)
   exact PPost.zaA (by simp [PR.bind, *])
  | true =>
   have hq2 := zbc hl hb;simp only [hb, if_true] at his ⊢;by_cases hv : y.lev <= 12
   ·simp only [hv, if_true]
    (refine RetX.of_bodyW Tryz.func84 rfl (by simp) fun Γ hn hpan => ?_); simp only [entry, ziC, ziN, maC, maN, oA, Tryz.ntmps84]
    repeat' (first
  | ((first | refine zaf ?_ | refine zaj ?_ | fail); simp [hne, del, hv])
  | (refine ⟨by omega, ?_⟩)
  | (refine zag ?_; simp [hne, del, hv])
  | (refine zap ?_; simp only [zao])
  | (refine CallP.fE (his) (by first | rfl | fail) (by first | simp [hne, del, hv] <;> rfl | fail) ?_; (try simp [hne, del, hv]))
  | (refine CallP.fE (hlv) (by first | rfl | fail) (by first | simp [hne, del, hv] <;> rfl | fail) ?_; (try simp [hne, del, hv]))
  | (refine CallP.ok1 (hEx _ (by first | omega | simp <;> omega | fail)) (by first | (simp [hne, del, hv, zaa, getK, zab, zac]; done) | fail) (by rfl) (by rfl) ?_; (try simp [hne, del, hv]))
  | (refine CallP.ok1 (hc1 _ _ (by first | omega | simp <;> omega | fail)) (by first | (simp [hne, del, hv, zaa, getK, zab, zac]; done) | fail) (by rfl) (by rfl) ?_; (try simp [hne, del, hv]))
  | fail)
    refine EndW.norm ?_;simp [St.norm, zbi, zb2, zcq, zcr, hne, nAA]
    (refine EndW.here ?_; (first | (refine EndOK.fin (.inr rfl) ?_) | (refine EndOK.fin (.inl rfl) ?_)); simp [zay, zae, Tryz.results84, hne, hi]; refine FinOK.cut [(i, pOb l (q + 1))] (nx) (by simp [zaa, getK, zab, zac, Ob.under, D.under, zad, zah, hne, hi] <;> omega) (by simp [D.under]) (by simp [hn]) ?_; try simp)
    exact PPost.zct rfl (by simp [Exp.row_eq]) rfl
   ·simp only [hv, if_false]
    (refine RetX.of_bodyW Tryz.func84 rfl (by simp) fun Γ hn hpan => ?_); simp only [entry, ziC, ziN, maC, maN, oA, Tryz.ntmps84]
    repeat' (first
  | ((first | refine zaf ?_ | refine zaj ?_ | refine zag ?_ | fail); simp [hne, del, hv])
  | (refine CallP.fE (his) (by first | rfl | fail) (by first | simp [hne, del, hv] <;> rfl | fail) ?_; (try simp [hne, del, hv]))
  | (refine CallP.fE (hlv) (by first | rfl | fail) (by first | simp [hne, del, hv] <;> rfl | fail) ?_; (try simp [hne, del, hv]))
  | (refine CallP.ok1 (hEx _ (by first | omega | simp <;> omega | fail)) (by first | (simp [hne, del, hv, zaa, getK, zab, zac]; done) | fail) (by rfl) (by rfl) ?_; (try simp [hne, del, hv]))
  | (refine CallP.ok1 (hc1 _ _ (by first | omega | simp <;> omega | fail)) (by first | (simp [hne, del, hv, zaa, getK, zab, zac]; done) | fail) (by rfl) (by rfl) ?_; (try simp [hne, del, hv]))
  | (refine CallP.zeg (hc2 _ _ (by first | omega | simp <;> omega | fail)) (by first | (simp [hne, del, hv, zaa, getK, zab, zac]; done) | fail) (by rfl) (by first | assumption | (simp; done) | fail) (by rfl) (by simp) ?_; rintro ob' ⟨q', rfl⟩; refine ⟨_, Wk.refl _, ?_⟩)
  | fail)
    (refine hpan _ _ ⟨{ n := _, env := [], obs := [(i, pOb l q')], next := nx }, (Wk.cut rfl (by simp [hn]) (by simp [wkO, zaa, getK, zab, zac, Ob.under, D.under, zad, zah, hi, hne, zab, zac, zaa, getK]) (by simp [wkU, zak, zaa, getK, D.under, hi, hne, zab, zac, zaa, getK]) (by simp [wkE, zak, zaa, getK, hi, hne, zab, zac, zaa, getK])), by simp [hn], ?_⟩; try simp)
    exact PPost.zaA (by simp [PR.bind, *])
theorem zgm {l : List Tok} (hl : TokOK l) {p q : Nat} {e : Exp} (h : zeb l p = .ok e q) (hp : p < l.length) : p <= q /\ q < l.length := by
 unfold zeb at h;obtain ⟨y, r, h1, h⟩ := PR.zaH h;have g1 := (zci hl _).1 _ _ _ _ h1 hp;split at h
 ·rename_i hb;split at h
  ·cases h;exact ⟨by omega, zbc hl hb⟩
  ·cases h
 ·cases h
theorem zgA : Fun Tryz.prog 58 [] (· = .u (.agg nothingE.row)) := by
 simp only [nothingE, Exp.row, List.map_nil]
 (refine Fun.of_bodyW Tryz.func58 rfl (by simp) fun Γ hn => ?_); simp only [entry, ziC, ziN, maC, maN, oA, Tryz.ntmps58]
 repeat' (first
  | ((first | refine zaf ?_ | refine zaj ?_ | refine zag ?_ | fail); simp)
  | (refine zap ?_; simp only [zao])
  | fail)
 refine EndW.norm ?_;simp [St.norm, zbi, zb2, zcq, zcr];refine EndW.here ?_
 (refine EndOK.val (.inr rfl) ?_; simp [zay, zae, zaq, Tryz.results58])
theorem zeJ (l : List Tok) (p : Nat) (w : List UInt8) (i nx : Nat) (hi : i < nx) (hp : p < l.length) (hl : TokOK l) (hl2 : l.length <= 2001) :
  RetX Tryz.prog 85 [.ptr i 0, .u (.str w)] [(i, pOb l p)] nx (PPost l i nx zee (zdJ l p w)) := by
 have hne := zaE hi;have hh1 := fun nx' (h : nx <= nx') => zbj l p w i nx' (by omega) hp hl.len;rw [zdJ];cases hb : isB l p w with
 | false =>
  have h0 := zgA;simp only [nothingE, Exp.row, List.map_nil] at h0;simp only [hb, Bool.false_eq_true, if_false] at hh1 ⊢
  (refine RetX.of_bodyW Tryz.func85 rfl (by simp) fun Γ hn hpan => ?_); simp only [entry, ziC, ziN, maC, maN, oA, Tryz.ntmps85]
  repeat' (first
  | ((first | refine zaf ?_ | refine zaj ?_ | refine zag ?_ | refine zai ?_ | fail); simp [hne, del])
  | ((first | refine zap ?_ | refine zar ?_ | fail); simp only [zao])
  | (refine CallP.fE (h0) (by first | rfl | fail) (by first | simp [hne, del] <;> rfl | fail) ?_; (try simp [hne, del]))
  | (refine CallP.ok1 (hh1 _ (by first | omega | simp <;> omega | fail)) (by first | (simp [hne, del, zaa, getK, zab, zac]; done) | fail) (by rfl) (by rfl) ?_; (try simp [hne, del]))
  | fail)
  refine EndW.norm ?_;simp [St.norm, zbi, zb2, zcq, zcr, hne, nAA]
  (refine EndW.here ?_; (first | (refine EndOK.fin (.inr rfl) ?_) | (refine EndOK.fin (.inl rfl) ?_)); simp [zay, zae, Tryz.results85, hne, hi]; refine FinOK.cut [(i, pOb l p)] (nx) (by simp [zaa, getK, zab, zac, Ob.under, D.under, zad, zah, hne, hi] <;> omega) (by simp [D.under]) (by simp [hn]) ?_; try simp)
  exact PPost.zct rfl (by simp [nothingE, Exp.row]) rfl
 | true =>
  have hp2 := zbc hl hb;simp only [hb, if_true] at hh1 ⊢;have hn1 := fun nx' (h : nx <= nx') => zgk l (p + 1) i nx' (by omega) hp2 hl hl2;cases hr0 : zeb l (p + 1) with
  | stop pos e =>
   simp only [hr0] at hn1
   (refine RetX.of_bodyW Tryz.func85 rfl (by simp) fun Γ hn hpan => ?_); simp only [entry, ziC, ziN, maC, maN, oA, Tryz.ntmps85]
   repeat' (first
  | ((first | refine zaf ?_ | refine zaj ?_ | refine zag ?_ | refine zai ?_ | fail); simp [hne, del])
  | (refine CallP.ok1 (hh1 _ (by first | omega | simp <;> omega | fail)) (by first | (simp [hne, del, zaa, getK, zab, zac]; done) | fail) (by rfl) (by rfl) ?_; (try simp [hne, del]))
  | (refine CallP.zeg (hn1 _ (by first | omega | simp <;> omega | fail)) (by first | (simp [hne, del, zaa, getK, zab, zac]; done) | fail) (by rfl) (by first | assumption | (simp; done) | fail) (by rfl) (by simp) ?_; rintro ob' ⟨q', rfl⟩; refine ⟨_, Wk.refl _, ?_⟩)
  | fail)
   (refine hpan _ _ ⟨{ n := _, env := [], obs := [(i, pOb l q')], next := nx }, (Wk.cut rfl (by simp [hn]) (by simp [wkO, zaa, getK, zab, zac, Ob.under, D.under, zad, zah, hi, hne, zab, zac, zaa, getK]) (by simp [wkU, zak, zaa, getK, D.under, hi, hne, zab, zac, zaa, getK]) (by simp [wkE, zak, zaa, getK, hi, hne, zab, zac, zaa, getK])), by simp [hn], ?_⟩; try simp)
   exact PPost.zaA (by simp [PR.bind, *])
  | ok n q0 =>
   have hn1 := fun nx' h => zdk (hn1 nx' h) hr0
   (refine RetX.of_bodyW Tryz.func85 rfl (by simp) fun Γ hn hpan => ?_); simp only [entry, ziC, ziN, maC, maN, oA, Tryz.ntmps85]
   repeat' (first
  | ((first | refine zaf ?_ | refine zaj ?_ | refine zag ?_ | refine zai ?_ | fail); simp [hne, del])
  | (refine zap ?_; simp only [zao])
  | (refine CallP.ok1 (hh1 _ (by first | omega | simp <;> omega | fail)) (by first | (simp [hne, del, zaa, getK, zab, zac]; done) | fail) (by rfl) (by rfl) ?_; (try simp [hne, del]))
  | (refine CallP.ok1 (hn1 _ (by first | omega | simp <;> omega | fail)) (by first | (simp [hne, del, zaa, getK, zab, zac]; done) | fail) (by rfl) (by rfl) ?_; (try simp [hne, del]))
  | fail)
   refine EndW.norm ?_;simp [St.norm, zbi, zb2, zcq, zcr, hne, nAA]
   (refine EndW.here ?_; (first | (refine EndOK.fin (.inr rfl) ?_) | (refine EndOK.fin (.inl rfl) ?_)); simp [zay, zae, Tryz.results85, hne, hi]; refine FinOK.cut [(i, pOb l q0)] (nx) (by simp [zaa, getK, zab, zac, Ob.under, D.under, zad, zah, hne, hi] <;> omega) (by simp [D.under]) (by simp [hn]) ?_; try simp)
   exact PPost.zct rfl (by simp [Exp.row_eq]) rfl
theorem zeK {l : List Tok} (hl : TokOK l) {p q : Nat} {w : List UInt8} {e : Exp} (h : zdJ l p w = .ok e q) (hp : p < l.length) : p <= q /\ q < l.length := by
 unfold zdJ at h;split at h
 ·rename_i hb;have := zgm hl h (zbc hl hb);exact ⟨by omega, this.2⟩
 ·cases h; exact ⟨by omega, hp⟩
abbrev zcc : Ob := .box [.fnc (.func 52) [.ptr 1 0]]
abbrev zde (j : Nat) (l : W8) : Ob := .box [.ptr 1 0, .vec j l.length]
abbrev zdd (l : W8) : Ob := .vec u8T 1 (zcg l)
def zp1 (j nx : Nat) (T : W8) (d : D) (o : List (Nat × Ob)) (n : Nat) : Prop := d = .tup [] /\ ∃ j', 3 <= j' /\ j' < n /\ nx <= n /\ o = [(2, zcc), (1, zde j' T), (j', zdd T)]
def zbn (w : W8) (n : Int) (ws : List W8) : W8 := if n = 0 then [] else zbM (w :: Lib.itoa n :: ws)
theorem zgG (l : W8) (ws : List W8) (j nx : Nat) (hj3 : 3 <= j) (hj : j < nx) (hlen : l.length + (zbM ws).length <= 140737488355328) (hN : ws.length <= 140737488355328) :
  RetX Tryz.prog 52 [.u (.sl (ws.map fun w => [.str w])), .ptr 1 0] [(1, zde j l), (j, zdd l)] nx
   (fun r o n => r = .val (.tup []) /\ o = [(1, zde nx (l ++ zbM ws)), (nx, zdd (l ++ zbM ws))] /\ n = nx + 1) := zmJ l ws 1 j nx (by omega) hj (by omega) hlen hN
theorem zda (l w : W8) (n : Int) (ws : List W8) (j nx : Nat) (hj3 : 3 <= j) (hj : j < nx) (h0 : 0 <= n) (h1 : n <= 1099511627776) (hlen : l.length + (zbn w n ws).length <= 100000000000000) (hN : ws.length <= 1000) :
  RetX Tryz.prog 55 [.u (.str w), .u (.int .i64 n), .u (.sl (ws.map fun w => [.str w])), .ptr 2 0] [(2, zcc), (1, zde j l), (j, zdd l)] nx
   (fun r o N => ∃ d, r = .val d /\ zp1 j nx (l ++ zbn w n ws) d o N) := by
 have hit := zkJ n (by omega) (by omega);have h2 : 2 < nx := by omega
 have h2j : ¬ (2 : Nat) = j := by omega
 have h1j : ¬ (1 : Nat) = j := by omega
 have hj2 : ¬ j = 2 := by omega
 have hj1 : ¬ j = 1 := by omega
 have hx0 : ¬ nx = 0 := by omega
 have hx1 : ¬ nx = 1 := by omega
 have hx2 : ¬ nx = 2 := by omega
 have hjx : ¬ j = nx + 1 := by omega
 have hne := zaE h2;have hne1 := zaE (show 1 < nx by omega);have hnej := zaE hj;by_cases hz : n = 0
 ·rw [zbn, if_pos hz, List.append_nil]
  (refine RetX.of_bodyW Tryz.func55 rfl (by simp) fun Γ hn hpan => ?_); simp only [entry, ziC, ziN, maC, maN, oA, Tryz.ntmps55]
  repeat' (first
  | ((first | refine zaf ?_ | refine zaj ?_ | refine zag ?_ | refine zai ?_ | fail); simp [hz])
  | (refine zar ?_; simp only [zao])
  | fail)
  (refine EndW.here ?_; (first | (refine EndOK.fin (.inr rfl) ?_) | (refine EndOK.fin (.inl rfl) ?_)); simp [zay, zae, Tryz.results55, hne, hne1, hnej, h2j, h1j, hj2, hj1, hj, h2]; refine FinOK.cut [(2, zcc), (1, zde j l), (j, zdd l)] (nx) (by simp [zaa, getK, zab, zac, Ob.under, D.under, zad, zah, hne, hne1, hnej, h2j, h1j, hj2, hj1, hj, h2] <;> omega) (by simp [D.under]) (by simp [hn]) ?_; try simp)
  exact ⟨rfl, j, hj3, hj, Nat.le_refl _, rfl⟩
 ·rw [zbn, if_neg hz] at hlen ⊢;have hln := fun nx' (h : nx <= nx') => zgG l (w :: Lib.itoa n :: ws) j nx' hj3 (by omega) (by omega) (by simp; omega);simp only [List.map_cons] at hln
  (refine RetX.of_bodyW Tryz.func55 rfl (by simp) fun Γ hn hpan => ?_); simp only [entry, ziC, ziN, maC, maN, oA, Tryz.ntmps55]
  have hA : 2 + ws.length <= ws.length + 1 + 1 := by omega
  have hB : List.take (2 + ws.length) ([U.str w] :: [U.str (Lib.itoa n)] :: List.map (fun w => [U.str w]) ws) = [U.str w] :: [U.str (Lib.itoa n)] :: List.map (fun w => [U.str w]) ws := List.take_of_length_le (by simp; omega)
  skip
  repeat' (first
  | (refine zdl ?_; simp [hz, hne, hne1, hnej, h2j, h1j, hj2, hj1, hx0, hx1, hx2, hjx, hA, hB, zan, frzS, zaJ])
  | (refine zd9 rfl rfl (by decide +kernel) (by first | (simp [hn]; done) | (simp [hn]; omega) | fail) fun C k hC hk => ?_; simp [hz, hne, hne1, hnej, h2j, h1j, hj2, hj1, hx0, hx1, hx2, hjx, hA, hB, zan, frzS, zaJ])
  | ((first | refine zaf ?_ | refine zaR rfl ?_ | refine zcb rfl ?_ | refine zaj ?_ | fail); simp [hz, hne, hne1, hnej, h2j, h1j, hj2, hj1, hx0, hx1, hx2, hjx, hA, hB, zan, frzS, zaJ])
  | (refine ⟨by omega, ?_⟩)
  | ((first | refine zag ?_ | refine zai ?_ | fail); simp [hz, hne, hne1, hnej, h2j, h1j, hj2, hj1, hx0, hx1, hx2, hjx, hA, hB, zan, frzS, zaJ])
  | (refine zaX (hC _ (zcj [2] (nx) (by simp <;> omega) (by simp <;> omega) (by apply Exists.intro; apply And.intro; (focus (repeat' (first | exact KF.nil | exact KL.nil | apply KF.cons | apply KL.cons 0 rfl | apply KL.cons 1 rfl | apply KL.cons 2 rfl | apply KL.cons 3 rfl | apply KL.cons 4 rfl | apply KL.cons 5 rfl | apply KL.cons 6 rfl | apply KL.cons 7 rfl | apply KL.cons 8 rfl | apply KL.cons 9 rfl))); kernel_rfl))) (hk _ ?_); clear hC hk C k; simp only [zao])
  | (refine CallV.fun_ (hit) (by first | rfl | fail) (by first | simp [hz, hne, hne1, hnej, h2j, h1j, hj2, hj1, hx0, hx1, hx2, hjx, hA, hB, zan, frzS, zaJ] <;> rfl | fail) ?_ <;> (try simp [hz, hne, hne1, hnej, h2j, h1j, hj2, hj1, hx0, hx1, hx2, hjx, hA, hB, zan, frzS, zaJ]))
  | (refine zau (by first | rfl | fail) ?_; simp [hz, hne, hne1, hnej, h2j, h1j, hj2, hj1, hx0, hx1, hx2, hjx, hA, hB, zan, frzS, zaJ, frzN, frz1, zaC, zaB, St.frz, St.frzS, frzS, fv, zaJ, za6, zba, zaG, zav, zan, del, frz, zbb])
  | (refine CallP.okL (hln _ (by first | omega | simp <;> omega | fail)) (by first | (simp [hz, hne, hne1, hnej, h2j, h1j, hj2, hj1, hx0, hx1, hx2, hjx, hA, hB, zan, frzS, zaJ, zaa, getK, zab, zac, zam, zaL, del]; done) | fail) (by rfl) (by rfl) ?_; (try simp [hz, hne, hne1, hnej, h2j, h1j, hj2, hj1, hx0, hx1, hx2, hjx, hA, hB, zan, frzS, zaJ, zc5, del]))
  | fail)
  generalize l ++ zbM (w :: Lib.itoa n :: ws) = T at *
  (refine EndW.here ?_; (first | (refine EndOK.fin (.inr rfl) ?_) | (refine EndOK.fin (.inl rfl) ?_)); simp [zay, zae, Tryz.results55, hne, hne1, hnej, h2j, h1j, hj2, hj1, hx0, hx1, hx2, hj, h2]; refine FinOK.cut [(2, zcc), (1, zde (nx + 2) T), (nx + 2, zdd T)] (nx + 3) (by simp [zaa, getK, zab, zac, Ob.under, D.under, zad, zah, hne, hne1, hnej, h2j, h1j, hj2, hj1, hx0, hx1, hx2, hj, h2] <;> omega) (by simp [D.under]) (by simp [hn]) ?_; try simp)
  exact ⟨rfl, nx + 2, by omega, by omega, by omega, rfl⟩
noncomputable def clauseT (w : W8) (e : Exp) : W8 := if eqB e nothingE = true /\ w ≠ [100, 117, 101] then [] else zbM [w, txt e 0]
theorem zji (w v : W8) : (zbM [w, v]).length = w.length + v.length + 4 := by
 rw [zbM, zaz, zaI]; simp; omega
theorem zdc (l w : W8) (e : Exp) (j nx : Nat) (hj3 : 3 <= j) (hj : j < nx) (he : zax 12 e = true) (hlen : l.length + w.length <= 10000000000000) :
  RetX Tryz.prog 57 [.u (.str w), .u (.agg e.row), .ptr 2 0] [(2, zcc), (1, zde j l), (j, zdd l)] nx
   (fun r o N => ∃ d, r = .val d /\ zp1 j nx (l ++ clauseT w e) d o N) := by
 have hsm : zcP e nothingE := zbg e nothingE;unfold zcP at hsm;have hno := zgA;have hsh := zf9 12 (Nat.le_refl _) e he 0;have htl := zbf he (Nat.le_refl _) 0;have hln2 := zji w (txt e 0);have h2 : 2 < nx := by omega
 have h2j : ¬ (2 : Nat) = j := by omega
 have h1j : ¬ (1 : Nat) = j := by omega
 have hj2 : ¬ j = 2 := by omega
 have hj1 : ¬ j = 1 := by omega
 have hx0 : ¬ nx = 0 := by omega
 have hx1 : ¬ nx = 1 := by omega
 have hx2 : ¬ nx = 2 := by omega
 have hjx : ¬ j = nx + 1 := by omega
 have hjx2 : ¬ j = nx + 2 := by omega
 have hne := zaE h2;have hne1 := zaE (show 1 < nx by omega);have hnej := zaE hj;rw [clauseT];rw [show nothingE.row = [.int .i64 0, .int .i64 0, .int .i64 3, .str [], .sl []] by simp [nothingE, Exp.row]] at hsm hno;rw [Exp.row_eq e] at *;generalize eqB e nothingE = E at *;by_cases hc1 : E = true /\ w ≠ [100, 117, 101]
 ·rw [if_pos hc1, List.append_nil];obtain ⟨rfl, hw⟩ := hc1
  (refine RetX.of_bodyW Tryz.func57 rfl (by simp) fun Γ hn hpan => ?_); simp only [entry, ziC, ziN, maC, maN, oA, Tryz.ntmps57]
  skip
  repeat' (first
  | ((first | refine zaf ?_ | refine zaR rfl ?_ | refine zcR rfl ?_ | refine zaj ?_ | refine zag ?_ | refine zai ?_ | fail); simp [hw, hne, hne1, hnej, h2j, h1j, hj2, hj1, hx0, hx1, hx2, hjx])
  | (refine zaX (hC _ (zcj [2] (nx) (by simp <;> omega) (by simp <;> omega) (by apply Exists.intro; apply And.intro; (focus (repeat' (first | exact KF.nil | exact KL.nil | apply KF.cons | apply KL.cons 0 rfl | apply KL.cons 1 rfl | apply KL.cons 2 rfl | apply KL.cons 3 rfl | apply KL.cons 4 rfl | apply KL.cons 5 rfl | apply KL.cons 6 rfl | apply KL.cons 7 rfl | apply KL.cons 8 rfl | apply KL.cons 9 rfl))); kernel_rfl))) (hk _ ?_); clear hC hk C k; simp only [zao])
  | (refine za2 rfl (by kernel_rfl) (by first | (simp [hn]; done) | (simp [hn]; omega) | fail) fun C k hC hk => ?_; simp [hw, hne, hne1, hnej, h2j, h1j, hj2, hj1, hx0, hx1, hx2, hjx])
  | (refine zbV rfl (by simp [hw, hne, hne1, hnej, h2j, h1j, hj2, hj1, hx0, hx1, hx2, hjx]) (fun hc => ?_) (fun hc => ?_) <;> (try simp [hw, hne, hne1, hnej, h2j, h1j, hj2, hj1, hx0, hx1, hx2, hjx] at hc) <;> (try (exfalso; omega)) <;> (try simp [hw, hne, hne1, hnej, h2j, h1j, hj2, hj1, hx0, hx1, hx2, hjx]))
  | (refine zar ?_; simp only [zao])
  | (refine CallV.fun_ (hno) (by first | rfl | fail) (by first | simp [hw, hne, hne1, hnej, h2j, h1j, hj2, hj1, hx0, hx1, hx2, hjx] <;> rfl | fail) ?_ <;> (try simp [hw, hne, hne1, hnej, h2j, h1j, hj2, hj1, hx0, hx1, hx2, hjx]))
  | (refine CallV.fun_ (hsm) (by first | rfl | fail) (by first | simp [hw, hne, hne1, hnej, h2j, h1j, hj2, hj1, hx0, hx1, hx2, hjx] <;> rfl | fail) ?_ <;> (try simp [hw, hne, hne1, hnej, h2j, h1j, hj2, hj1, hx0, hx1, hx2, hjx]))
  | fail)
  (refine EndW.here ?_; (first | (refine EndOK.fin (.inr rfl) ?_) | (refine EndOK.fin (.inl rfl) ?_)); simp [zay, zae, Tryz.results57, hne, hne1, hnej, h2j, h1j, hj2, hj1, hx0, hx1, hx2, hj, h2]; refine FinOK.cut [(2, zcc), (1, zde j l), (j, zdd l)] (nx) (by simp [zaa, getK, zab, zac, Ob.under, D.under, zad, zah, hne, hne1, hnej, h2j, h1j, hj2, hj1, hx0, hx1, hx2, hj, h2] <;> omega) (by simp [D.under]) (by simp [hn]) ?_; try simp)
  exact ⟨rfl, j, hj3, hj, Nat.le_refl _, rfl⟩
 ·rw [if_neg hc1];have hln := fun nx' (h : nx <= nx') => zgG l [w, txt e 0] j nx' hj3 (by omega) (by omega) (by simp);simp only [List.map_cons, List.map_nil] at hln;generalize txt e 0 = T0 at *;generalize l ++ zbM [w, T0] = T at *;cases E with
  | false =>
   (refine RetX.of_bodyW Tryz.func57 rfl (by simp) fun Γ hn hpan => ?_); simp only [entry, ziC, ziN, maC, maN, oA, Tryz.ntmps57]
   skip
   repeat' (first
  | (refine zdl ?_; simp [hne, hne1, hnej, h2j, h1j, hj2, hj1, hx0, hx1, hx2, hjx, hjx2, zan, frzS, zaJ])
  | (refine zd9 rfl rfl (by decide +kernel) (by first | (simp [hn]; done) | (simp [hn]; omega) | fail) fun C k hC hk => ?_; simp [hne, hne1, hnej, h2j, h1j, hj2, hj1, hx0, hx1, hx2, hjx, hjx2, zan, frzS, zaJ])
  | ((first | refine zaf ?_ | refine zaR rfl ?_ | refine zcb rfl ?_ | refine zaj ?_ | refine zag ?_ | refine zai ?_ | fail); simp [hne, hne1, hnej, h2j, h1j, hj2, hj1, hx0, hx1, hx2, hjx, hjx2, zan, frzS, zaJ])
  | (refine zaX (hC _ (zcj [2] (nx) (by simp <;> omega) (by simp <;> omega) (by apply Exists.intro; apply And.intro; (focus (repeat' (first | exact KF.nil | exact KL.nil | apply KF.cons | apply KL.cons 0 rfl | apply KL.cons 1 rfl | apply KL.cons 2 rfl | apply KL.cons 3 rfl | apply KL.cons 4 rfl | apply KL.cons 5 rfl | apply KL.cons 6 rfl | apply KL.cons 7 rfl | apply KL.cons 8 rfl | apply KL.cons 9 rfl))); kernel_rfl))) (hk _ ?_); clear hC hk C k; simp only [zao])
  | (refine za2 rfl (by kernel_rfl) (by first | (simp [hn]; done) | (simp [hn]; omega) | fail) fun C k hC hk => ?_; simp [hne, hne1, hnej, h2j, h1j, hj2, hj1, hx0, hx1, hx2, hjx, hjx2, zan, frzS, zaJ])
  | (refine zbV rfl (by simp [hne, hne1, hnej, h2j, h1j, hj2, hj1, hx0, hx1, hx2, hjx, hjx2, zan, frzS, zaJ]) (fun hc => ?_) (fun hc => ?_) <;> (try simp [hne, hne1, hnej, h2j, h1j, hj2, hj1, hx0, hx1, hx2, hjx, hjx2, zan, frzS, zaJ] at hc) <;> (try (exfalso; omega)) <;> (try simp [hne, hne1, hnej, h2j, h1j, hj2, hj1, hx0, hx1, hx2, hjx, hjx2, zan, frzS, zaJ]))
  | (refine CallV.fun_ (hno) (by first | rfl | fail) (by first | simp [hne, hne1, hnej, h2j, h1j, hj2, hj1, hx0, hx1, hx2, hjx, hjx2, zan, frzS, zaJ] <;> rfl | fail) ?_ <;> (try simp [hne, hne1, hnej, h2j, h1j, hj2, hj1, hx0, hx1, hx2, hjx, hjx2, zan, frzS, zaJ]))
  | (refine CallV.fun_ (hsm) (by first | rfl | fail) (by first | simp [hne, hne1, hnej, h2j, h1j, hj2, hj1, hx0, hx1, hx2, hjx, hjx2, zan, frzS, zaJ] <;> rfl | fail) ?_ <;> (try simp [hne, hne1, hnej, h2j, h1j, hj2, hj1, hx0, hx1, hx2, hjx, hjx2, zan, frzS, zaJ]))
  | (refine CallV.fun_ (hsh) (by first | rfl | fail) (by first | simp [hne, hne1, hnej, h2j, h1j, hj2, hj1, hx0, hx1, hx2, hjx, hjx2, zan, frzS, zaJ] <;> rfl | fail) ?_ <;> (try simp [hne, hne1, hnej, h2j, h1j, hj2, hj1, hx0, hx1, hx2, hjx, hjx2, zan, frzS, zaJ]))
  | (refine zau (by first | rfl | fail) ?_; simp [hne, hne1, hnej, h2j, h1j, hj2, hj1, hx0, hx1, hx2, hjx, hjx2, zan, frzS, zaJ, frzN, frz1, zaC, zaB, St.frz, St.frzS, frzS, fv, zaJ, za6, zba, zaG, zav, zan, del, frz, zbb])
  | (refine CallP.okL (hln _ (by first | omega | simp <;> omega | fail)) (by first | (simp [hne, hne1, hnej, h2j, h1j, hj2, hj1, hx0, hx1, hx2, hjx, hjx2, zan, frzS, zaJ, zaa, getK, zab, zac, zam, zaL, del]; done) | fail) (by rfl) (by rfl) ?_; (try simp [hne, hne1, hnej, h2j, h1j, hj2, hj1, hx0, hx1, hx2, hjx, hjx2, zan, frzS, zaJ, zc5, del]))
  | fail)
   (refine EndW.here ?_; (first | (refine EndOK.fin (.inr rfl) ?_) | (refine EndOK.fin (.inl rfl) ?_)); simp [zay, zae, Tryz.results57, hne, hne1, hnej, h2j, h1j, hj2, hj1, hx0, hx1, hx2, hj, h2]; refine FinOK.cut [(2, zcc), (1, zde (nx + 2) T), (nx + 2, zdd T)] (nx + 3) (by simp [zaa, getK, zab, zac, Ob.under, D.under, zad, zah, hne, hne1, hnej, h2j, h1j, hj2, hj1, hx0, hx1, hx2, hj, h2] <;> omega) (by simp [D.under]) (by simp [hn]) ?_; try simp)
   exact ⟨rfl, nx + 2, by omega, by omega, by omega, rfl⟩
  | true =>
   obtain rfl : w = [100, 117, 101] := by
    by_cases hw : w = [100, 117, 101]
    ·exact hw
    ·exact absurd ⟨rfl, hw⟩ hc1
   (refine RetX.of_bodyW Tryz.func57 rfl (by simp) fun Γ hn hpan => ?_); simp only [entry, ziC, ziN, maC, maN, oA, Tryz.ntmps57]
   skip
   repeat' (first
  | (refine zdl ?_; simp [hne, hne1, hnej, h2j, h1j, hj2, hj1, hx0, hx1, hx2, hjx, hjx2, zan, frzS, zaJ])
  | (refine zd9 rfl rfl (by decide +kernel) (by first | (simp [hn]; done) | (simp [hn]; omega) | fail) fun C k hC hk => ?_; simp [hne, hne1, hnej, h2j, h1j, hj2, hj1, hx0, hx1, hx2, hjx, hjx2, zan, frzS, zaJ])
  | ((first | refine zaf ?_ | refine zaR rfl ?_ | refine zcb rfl ?_ | refine zcR rfl ?_ | refine zaj ?_ | refine zag ?_ | refine zai ?_ | fail); simp [hne, hne1, hnej, h2j, h1j, hj2, hj1, hx0, hx1, hx2, hjx, hjx2, zan, frzS, zaJ])
  | (refine zaX (hC _ (zcj [2] (nx) (by simp <;> omega) (by simp <;> omega) (by apply Exists.intro; apply And.intro; (focus (repeat' (first | exact KF.nil | exact KL.nil | apply KF.cons | apply KL.cons 0 rfl | apply KL.cons 1 rfl | apply KL.cons 2 rfl | apply KL.cons 3 rfl | apply KL.cons 4 rfl | apply KL.cons 5 rfl | apply KL.cons 6 rfl | apply KL.cons 7 rfl | apply KL.cons 8 rfl | apply KL.cons 9 rfl))); kernel_rfl))) (hk _ ?_); clear hC hk C k; simp only [zao])
  | (refine za2 rfl (by kernel_rfl) (by first | (simp [hn]; done) | (simp [hn]; omega) | fail) fun C k hC hk => ?_; simp [hne, hne1, hnej, h2j, h1j, hj2, hj1, hx0, hx1, hx2, hjx, hjx2, zan, frzS, zaJ])
  | (refine zbV rfl (by simp [hne, hne1, hnej, h2j, h1j, hj2, hj1, hx0, hx1, hx2, hjx, hjx2, zan, frzS, zaJ]) (fun hc => ?_) (fun hc => ?_) <;> (try simp [hne, hne1, hnej, h2j, h1j, hj2, hj1, hx0, hx1, hx2, hjx, hjx2, zan, frzS, zaJ] at hc) <;> (try (exfalso; omega)) <;> (try simp [hne, hne1, hnej, h2j, h1j, hj2, hj1, hx0, hx1, hx2, hjx, hjx2, zan, frzS, zaJ]))
  | (refine CallV.fun_ (hno) (by first | rfl | fail) (by first | simp [hne, hne1, hnej, h2j, h1j, hj2, hj1, hx0, hx1, hx2, hjx, hjx2, zan, frzS, zaJ] <;> rfl | fail) ?_ <;> (try simp [hne, hne1, hnej, h2j, h1j, hj2, hj1, hx0, hx1, hx2, hjx, hjx2, zan, frzS, zaJ]))
  | (refine CallV.fun_ (hsm) (by first | rfl | fail) (by first | simp [hne, hne1, hnej, h2j, h1j, hj2, hj1, hx0, hx1, hx2, hjx, hjx2, zan, frzS, zaJ] <;> rfl | fail) ?_ <;> (try simp [hne, hne1, hnej, h2j, h1j, hj2, hj1, hx0, hx1, hx2, hjx, hjx2, zan, frzS, zaJ]))
  | (refine CallV.fun_ (hsh) (by first | rfl | fail) (by first | simp [hne, hne1, hnej, h2j, h1j, hj2, hj1, hx0, hx1, hx2, hjx, hjx2, zan, frzS, zaJ] <;> rfl | fail) ?_ <;> (try simp [hne, hne1, hnej, h2j, h1j, hj2, hj1, hx0, hx1, hx2, hjx, hjx2, zan, frzS, zaJ]))
  | (refine zau (by first | rfl | fail) ?_; simp [hne, hne1, hnej, h2j, h1j, hj2, hj1, hx0, hx1, hx2, hjx, hjx2, zan, frzS, zaJ, frzN, frz1, zaC, zaB, St.frz, St.frzS, frzS, fv, zaJ, za6, zba, zaG, zav, zan, del, frz, zbb])
  | (refine CallP.okL (hln _ (by first | omega | simp <;> omega | fail)) (by first | (simp [hne, hne1, hnej, h2j, h1j, hj2, hj1, hx0, hx1, hx2, hjx, hjx2, zan, frzS, zaJ, zaa, getK, zab, zac, zam, zaL, del]; done) | fail) (by rfl) (by rfl) ?_; (try simp [hne, hne1, hnej, h2j, h1j, hj2, hj1, hx0, hx1, hx2, hjx, hjx2, zan, frzS, zaJ, zc5, del]))
  | fail)
   (refine EndW.here ?_; (first | (refine EndOK.fin (.inr rfl) ?_) | (refine EndOK.fin (.inl rfl) ?_)); simp [zay, zae, Tryz.results57, hne, hne1, hnej, h2j, h1j, hj2, hj1, hx0, hx1, hx2, hj, h2]; refine FinOK.cut [(2, zcc), (1, zde (nx + 2) T), (nx + 2, zdd T)] (nx + 3) (by simp [zaa, getK, zab, zac, Ob.under, D.under, zad, zah, hne, hne1, hnej, h2j, h1j, hj2, hj1, hx0, hx1, hx2, hj, h2] <;> omega) (by simp [D.under]) (by simp [hn]) ?_; try simp)
   exact ⟨rfl, nx + 2, by omega, by omega, by omega, rfl⟩
theorem _root_.Go.VL.CallP.pp {P : Program} {Γ : Ctx} {s : St} {k : St -> Prop} {dst : Option Tmp} {fop : Operand} {args : List Operand} {f caps} {ds : List D} {α : Type} {l : List Tok} {i : Nat} {ob : Ob} {val : α -> D} {r : PR α}
  (hret : RetX P f ds [(i, ob)] s.next (PPost l i s.next val r)) (hj : getK s.obs i = some ob) (hf : zaw (opd s fop) = some (f, caps)) (hc : zal P f = true) (hds : args.map (opd s) ++ caps = ds) (hp : zaF dst s)
  (hk : ∀ a q, r = .ok a q -> k (({ s with obs := del s.obs i ++ [(i, pOb l q)], next := s.next } : St).put dst (val a)))
  (hx : ∀ pos e q, r = .stop pos e -> ∃ s2, Wk Γ { s with obs := del s.obs i ++ [(i, pOb l q)], next := s.next } s2 /\ Γ.pan (chP pos e) s2) : CallP P Γ fop args dst s k :=
 CallP.x1 hret hj hf hc hds hp (fun d o1 nx' _ h => by
  cases r with
  | ok a q => obtain ⟨h1, h2, h3⟩ := h; cases h1; subst h2; subst h3; exact hk a q rfl
  | stop pos e => obtain ⟨h1, _⟩ := h; cases h1) (fun ch o1 nx' _ h => by
  cases r with
  | ok a q => obtain ⟨h1, _⟩ := h; cases h1
  | stop pos e => obtain ⟨h1, ⟨ob', ⟨q, rfl⟩, h2⟩, h3⟩ := h; cases h1; subst h2; subst h3; exact hx pos e q rfl)
abbrev kbD (x : Int × Bool) : D := .tup [.u (.int .i64 x.1), .u (.bool x.2)]
theorem zn6 (l : List Tok) (p : Nat) (i nx : Nat) (hi : i < nx) (hp : p < l.length) (hl : TokOK l) :
  RetX Tryz.prog 78 [.ptr i 0] [(i, pOb l p)] nx (PPost l i nx kbD (zkd l p)) := by
 have hne := zaE hi;have hll := hl.len;generalize hR : zkd l p = R;rw [zkd] at hR
 (refine RetX.of_bodyW Tryz.func78 rfl (by simp) fun Γ hn hpan => ?_); simp only [entry, ziC, ziN, maC, maN, oA, Tryz.ntmps78]
 repeat' (first
  | ((first | refine zaf ?_ | refine zaj ?_ | refine zag ?_ | fail); simp [hne])
  | (refine zau (by first | rfl | fail) ?_; simp [hne, frzN, frz1, zaC, zaB, St.frz, St.frzS, frzS, fv, zaJ, za6, zba, zaG, zav, zan, del, frz, zbb])
  | fail)
 (refine CallP.pp (zeS hl [99, 105, 114, 99, 108, 101] (q := p) (i := i) (by first | omega | simp <;> omega | fail) hp) (by first | (simp [hi, hne, nAA, zaa, getK, zab, zac]; done) | fail) (by rfl) (by first | assumption | (simp; done) | fail) (by rfl) (by simp) (fun v1 q1 h1 => ?_) (fun pos e q' h1 => ⟨_, Wk.refl _, ?_⟩); rotate_left 1; (focus (rw [h1, PR.zaM] at hR; (refine hpan _ _ ⟨{ n := _, env := [], obs := [(i, pOb l q')], next := nx }, (Wk.cut rfl (by simp [hn]) (by simp [wkO, zaa, getK, zab, zac, Ob.under, D.under, zad, zah, hi, hne, nAA, zab, zac, zaa, getK]) (by simp [wkU, zak, zaa, getK, D.under, hi, hne, nAA, zab, zac, zaa, getK]) (by simp [wkE, zak, zaa, getK, hi, hne, nAA, zab, zac, zaa, getK])), by simp [hn], ?_⟩; try simp); exact PPost.zaA hR.symm)); rw [h1, PR.zaV] at hR; (try simp [hi, hne, nAA]))
 obtain ⟨_, g1⟩ := za1 hl _ h1 hp;have hh1 := fun nx' (h : nx <= nx') => zbj l q1 [114, 111, 116, 97, 116, 105, 110, 103] i nx' (by omega) g1 hl.len;have hh2 := fun nx' (h : nx <= nx') => zbj l q1 [115, 97, 118, 105, 110, 103] i nx' (by omega) g1 hl.len;by_cases c1 : isB l q1 [114, 111, 116, 97, 116, 105, 110, 103] = true
 ·have g2 := zbc hl c1;rw [if_pos c1] at hR;simp only [c1, if_true] at hh1
  repeat' (first
  | ((first | refine zaf ?_ | refine zaj ?_ | refine zag ?_ | refine zai ?_ | fail); simp [hne, del, nAA])
  | (refine CallP.ok1 (hh1 _ (by first | omega | simp <;> omega | fail)) (by first | (simp [hne, del, nAA, zaa, getK, zab, zac]; done) | fail) (by rfl) (by rfl) ?_; (try simp [hne, del, nAA]))
  | (refine zau (by first | rfl | fail) ?_; simp [hne, del, nAA, frzN, frz1, zaC, zaB, St.frz, St.frzS, frzS, fv, zaJ, za6, zba, zaG, zav, zan, del, frz, zbb])
  | fail)
  (refine CallP.pp (zeS hl [59] (q := q1 + 1) (i := i) (by first | omega | simp <;> omega | fail) g2) (by first | (simp [hi, hne, nAA, zaa, getK, zab, zac]; done) | fail) (by rfl) (by first | assumption | (simp; done) | fail) (by rfl) (by simp) (fun v2 q2 h2 => ?_) (fun pos e q' h2 => ⟨_, Wk.refl _, ?_⟩); rotate_left 1; (focus (rw [h2, PR.zaM] at hR; (refine hpan _ _ ⟨{ n := _, env := [], obs := [(i, pOb l q')], next := nx }, (Wk.cut rfl (by simp [hn]) (by simp [wkO, zaa, getK, zab, zac, Ob.under, D.under, zad, zah, hi, hne, nAA, zab, zac, zaa, getK]) (by simp [wkU, zak, zaa, getK, D.under, hi, hne, nAA, zab, zac, zaa, getK]) (by simp [wkE, zak, zaa, getK, hi, hne, nAA, zab, zac, zaa, getK])), by simp [hn], ?_⟩; try simp); exact PPost.zaA hR.symm)); rw [h2, PR.zaV] at hR; (try simp [hi, hne, nAA]))
  repeat' (first
  | ((first | refine zaf ?_ | refine zaj ?_ | refine zag ?_ | fail); simp [hne, del, nAA])
  | (refine zap ?_; simp only [zao])
  | fail)
  (refine EndW.here ?_; (first | (refine EndOK.fin (.inr rfl) ?_) | (refine EndOK.fin (.inl rfl) ?_)); simp [zay, zae, Tryz.results78, hne, hi]; refine FinOK.cut [(i, pOb l q2)] (nx) (by simp [zaa, getK, zab, zac, Ob.under, D.under, zad, zah, hne, hi] <;> omega) (by simp [D.under]) (by simp [hn]) ?_; try simp)
  exact PPost.zct hR.symm rfl rfl
 ·rw [if_neg c1] at hR;simp only [c1, Bool.false_eq_true, if_false] at hh1;by_cases c2 : isB l q1 [115, 97, 118, 105, 110, 103] = true
  ·have g2 := zbc hl c2;rw [if_pos c2] at hR;simp only [c2, if_true] at hh2
   repeat' (first
  | ((first | refine zaf ?_ | refine zaj ?_ | refine zag ?_ | refine zai ?_ | fail); simp [hne, del, nAA])
  | (refine CallP.ok1 (hh1 _ (by first | omega | simp <;> omega | fail)) (by first | (simp [hne, del, nAA, zaa, getK, zab, zac]; done) | fail) (by rfl) (by rfl) ?_; (try simp [hne, del, nAA]))
  | (refine CallP.ok1 (hh2 _ (by first | omega | simp <;> omega | fail)) (by first | (simp [hne, del, nAA, zaa, getK, zab, zac]; done) | fail) (by rfl) (by rfl) ?_; (try simp [hne, del, nAA]))
  | (refine zau (by first | rfl | fail) ?_; simp [hne, del, nAA, frzN, frz1, zaC, zaB, St.frz, St.frzS, frzS, fv, zaJ, za6, zba, zaG, zav, zan, del, frz, zbb])
  | fail)
   (refine CallP.pp (zeS hl [59] (q := q1 + 1) (i := i) (by first | omega | simp <;> omega | fail) g2) (by first | (simp [hi, hne, nAA, zaa, getK, zab, zac]; done) | fail) (by rfl) (by first | assumption | (simp; done) | fail) (by rfl) (by simp) (fun v2 q2 h2 => ?_) (fun pos e q' h2 => ⟨_, Wk.refl _, ?_⟩); rotate_left 1; (focus (rw [h2, PR.zaM] at hR; (refine hpan _ _ ⟨{ n := _, env := [], obs := [(i, pOb l q')], next := nx }, (Wk.cut rfl (by simp [hn]) (by simp [wkO, zaa, getK, zab, zac, Ob.under, D.under, zad, zah, hi, hne, nAA, zab, zac, zaa, getK]) (by simp [wkU, zak, zaa, getK, D.under, hi, hne, nAA, zab, zac, zaa, getK]) (by simp [wkE, zak, zaa, getK, hi, hne, nAA, zab, zac, zaa, getK])), by simp [hn], ?_⟩; try simp); exact PPost.zaA hR.symm)); rw [h2, PR.zaV] at hR; (try simp [hi, hne, nAA]))
   repeat' (first
  | ((first | refine zaf ?_ | refine zaj ?_ | refine zag ?_ | fail); simp [hne, del, nAA])
  | (refine zap ?_; simp only [zao])
  | fail)
   (refine EndW.here ?_; (first | (refine EndOK.fin (.inr rfl) ?_) | (refine EndOK.fin (.inl rfl) ?_)); simp [zay, zae, Tryz.results78, hne, hi]; refine FinOK.cut [(i, pOb l q2)] (nx) (by simp [zaa, getK, zab, zac, Ob.under, D.under, zad, zah, hne, hi] <;> omega) (by simp [D.under]) (by simp [hn]) ?_; try simp)
   exact PPost.zct hR.symm rfl rfl
  ·rw [if_neg c2] at hR;simp only [c2, Bool.false_eq_true, if_false] at hh2
   repeat' (first
  | ((first | refine zaf ?_ | refine zaj ?_ | refine zag ?_ | refine zai ?_ | fail); simp [hne, del, nAA])
  | (refine zar ?_; simp only [zao])
  | (refine CallP.ok1 (hh1 _ (by first | omega | simp <;> omega | fail)) (by first | (simp [hne, del, nAA, zaa, getK, zab, zac]; done) | fail) (by rfl) (by rfl) ?_; (try simp [hne, del, nAA]))
  | (refine CallP.ok1 (hh2 _ (by first | omega | simp <;> omega | fail)) (by first | (simp [hne, del, nAA, zaa, getK, zab, zac]; done) | fail) (by rfl) (by rfl) ?_; (try simp [hne, del, nAA]))
  | (refine zau (by first | rfl | fail) ?_; simp [hne, del, nAA, frzN, frz1, zaC, zaB, St.frz, St.frzS, frzS, fv, zaJ, za6, zba, zaG, zav, zan, del, frz, zbb])
  | fail)
   (refine CallP.pp (zeS hl [98, 105, 100, 100, 105, 110, 103] (q := q1) (i := i) (by first | omega | simp <;> omega | fail) g1) (by first | (simp [hi, hne, nAA, zaa, getK, zab, zac]; done) | fail) (by rfl) (by first | assumption | (simp; done) | fail) (by rfl) (by simp) (fun v2 q2 h2 => ?_) (fun pos e q' h2 => ⟨_, Wk.refl _, ?_⟩); rotate_left 1; (focus (rw [h2, PR.zaM] at hR; (refine hpan _ _ ⟨{ n := _, env := [], obs := [(i, pOb l q')], next := nx }, (Wk.cut rfl (by simp [hn]) (by simp [wkO, zaa, getK, zab, zac, Ob.under, D.under, zad, zah, hi, hne, nAA, zab, zac, zaa, getK]) (by simp [wkU, zak, zaa, getK, D.under, hi, hne, nAA, zab, zac, zaa, getK]) (by simp [wkE, zak, zaa, getK, hi, hne, nAA, zab, zac, zaa, getK])), by simp [hn], ?_⟩; try simp); exact PPost.zaA hR.symm)); rw [h2, PR.zaV] at hR; (try simp [hi, hne, nAA]))
   obtain ⟨_, g2⟩ := za1 hl _ h2 g1;have hh3 := fun nx' (h : nx <= nx') => zbj l q2 [115, 101, 97, 108, 101, 100] i nx' (by omega) g2 hl.len;by_cases c3 : isB l q2 [115, 101, 97, 108, 101, 100] = true
   ·have g3 := zbc hl c3;rw [if_pos c3] at hR;simp only [c3, if_true] at hh3
    repeat' (first
  | ((first | refine zaf ?_ | refine zaj ?_ | refine zag ?_ | fail); simp [hne, del, nAA])
  | (refine CallP.ok1 (hh3 _ (by first | omega | simp <;> omega | fail)) (by first | (simp [hne, del, nAA, zaa, getK, zab, zac]; done) | fail) (by rfl) (by rfl) ?_; (try simp [hne, del, nAA]))
  | (refine zau (by first | rfl | fail) ?_; simp [hne, del, nAA, frzN, frz1, zaC, zaB, St.frz, St.frzS, frzS, fv, zaJ, za6, zba, zaG, zav, zan, del, frz, zbb])
  | fail)
    (refine CallP.pp (zeS hl [59] (q := q2 + 1) (i := i) (by first | omega | simp <;> omega | fail) g3) (by first | (simp [hi, hne, nAA, zaa, getK, zab, zac]; done) | fail) (by rfl) (by first | assumption | (simp; done) | fail) (by rfl) (by simp) (fun v3 q3 h3 => ?_) (fun pos e q' h3 => ⟨_, Wk.refl _, ?_⟩); rotate_left 1; (focus (rw [h3, PR.zaM] at hR; (refine hpan _ _ ⟨{ n := _, env := [], obs := [(i, pOb l q')], next := nx }, (Wk.cut rfl (by simp [hn]) (by simp [wkO, zaa, getK, zab, zac, Ob.under, D.under, zad, zah, hi, hne, nAA, zab, zac, zaa, getK]) (by simp [wkU, zak, zaa, getK, D.under, hi, hne, nAA, zab, zac, zaa, getK]) (by simp [wkE, zak, zaa, getK, hi, hne, nAA, zab, zac, zaa, getK])), by simp [hn], ?_⟩; try simp); exact PPost.zaA hR.symm)); rw [h3, PR.zaV] at hR; (try simp [hi, hne, nAA]))
    repeat' (first
  | ((first | refine zaf ?_ | refine zaj ?_ | refine zag ?_ | fail); simp [hne, del, nAA])
  | (refine zap ?_; simp only [zao])
  | fail)
    (refine EndW.here ?_; (first | (refine EndOK.fin (.inr rfl) ?_) | (refine EndOK.fin (.inl rfl) ?_)); simp [zay, zae, Tryz.results78, hne, hi]; refine FinOK.cut [(i, pOb l q3)] (nx) (by simp [zaa, getK, zab, zac, Ob.under, D.under, zad, zah, hne, hi] <;> omega) (by simp [D.under]) (by simp [hn]) ?_; try simp)
    exact PPost.zct hR.symm rfl rfl
   ·rw [if_neg c3] at hR;simp only [c3, Bool.false_eq_true, if_false] at hh3
    repeat' (first
  | ((first | refine zaf ?_ | refine zaj ?_ | refine zag ?_ | fail); simp [hne, del, nAA])
  | (refine CallP.ok1 (hh3 _ (by first | omega | simp <;> omega | fail)) (by first | (simp [hne, del, nAA, zaa, getK, zab, zac]; done) | fail) (by rfl) (by rfl) ?_; (try simp [hne, del, nAA]))
  | (refine zau (by first | rfl | fail) ?_; simp [hne, del, nAA, frzN, frz1, zaC, zaB, St.frz, St.frzS, frzS, fv, zaJ, za6, zba, zaG, zav, zan, del, frz, zbb])
  | fail)
    (refine CallP.pp (zeS hl [59] (q := q2) (i := i) (by first | omega | simp <;> omega | fail) g2) (by first | (simp [hi, hne, nAA, zaa, getK, zab, zac]; done) | fail) (by rfl) (by first | assumption | (simp; done) | fail) (by rfl) (by simp) (fun v3 q3 h3 => ?_) (fun pos e q' h3 => ⟨_, Wk.refl _, ?_⟩); rotate_left 1; (focus (rw [h3, PR.zaM] at hR; (refine hpan _ _ ⟨{ n := _, env := [], obs := [(i, pOb l q')], next := nx }, (Wk.cut rfl (by simp [hn]) (by simp [wkO, zaa, getK, zab, zac, Ob.under, D.under, zad, zah, hi, hne, nAA, zab, zac, zaa, getK]) (by simp [wkU, zak, zaa, getK, D.under, hi, hne, nAA, zab, zac, zaa, getK]) (by simp [wkE, zak, zaa, getK, hi, hne, nAA, zab, zac, zaa, getK])), by simp [hn], ?_⟩; try simp); exact PPost.zaA hR.symm)); rw [h3, PR.zaV] at hR; (try simp [hi, hne, nAA]))
    repeat' (first
  | ((first | refine zaf ?_ | refine zaj ?_ | refine zag ?_ | fail); simp [hne, del, nAA])
  | (refine zap ?_; simp only [zao])
  | fail)
    (refine EndW.here ?_; (first | (refine EndOK.fin (.inr rfl) ?_) | (refine EndOK.fin (.inl rfl) ?_)); simp [zay, zae, Tryz.results78, hne, hi]; refine FinOK.cut [(i, pOb l q3)] (nx) (by simp [zaa, getK, zab, zac, Ob.under, D.under, zad, zah, hne, hi] <;> omega) (by simp [D.under]) (by simp [hn]) ?_; try simp)
    exact PPost.zct hR.symm rfl rfl
theorem zn8 {l : List Tok} (hl : TokOK l) {p q : Nat} {x : Int × Bool} (h : zkd l p = .ok x q) (hp : p < l.length) : p <= q /\ q < l.length := by
 unfold zkd at h;obtain ⟨_, r1, h1, h⟩ := PR.zaH h;have g1 := za1 hl _ h1 hp;split at h
 ·rename_i hb;obtain ⟨_, r2, h2, h⟩ := PR.zaH h;have g2 := za1 hl _ h2 (zbc hl hb);cases h;exact ⟨by omega, g2.2⟩
 ·split at h
  ·rename_i hb;obtain ⟨_, r2, h2, h⟩ := PR.zaH h;have g2 := za1 hl _ h2 (zbc hl hb);cases h;exact ⟨by omega, g2.2⟩
  ·obtain ⟨_, r2, h2, h⟩ := PR.zaH h;have g2 := za1 hl _ h2 g1.2;split at h
   ·rename_i hb;obtain ⟨_, r3, h3, h⟩ := PR.zaH h;have g3 := za1 hl _ h3 (zbc hl hb);cases h;exact ⟨by omega, g3.2⟩
   ·obtain ⟨_, r3, h3, h⟩ := PR.zaH h;have g3 := za1 hl _ h3 g2.2;cases h;exact ⟨by omega, g3.2⟩
theorem zfw : Fun Tryz.prog 60 [] (· = .u (.sl (ordersW.map fun w => [.str w]))) := by
 simp only [ordersW, List.map_cons, List.map_nil]
 (refine Fun.of_bodyW Tryz.func60 rfl (by simp) fun Γ hn => ?_); simp only [entry, ziC, ziN, maC, maN, oA, Tryz.ntmps60]
 repeat' (first
  | ((first | refine zaf ?_ | refine zaj ?_ | refine zag ?_ | fail); simp [zbO, zbE])
  | (refine zap ?_; simp only [zao])
  | fail)
 (refine EndW.frzN 1 ?_; simp [frzN, frz1, zaC, zaB, St.frz, St.frzS, frzS, fv, zaJ, za6, zba, zaG, zav, zan, del, frz, zbb])
 refine EndW.here ?_
 (refine EndOK.val (.inr rfl) ?_; simp [zay, zae, zaq, Tryz.results60])
def atW (l : List Tok) (q : Nat) (ws : List W8) : Option Nat := ws.findIdx? fun w => isB l q w
theorem zlF (l : List Tok) (q : Nat) (ws : List W8) (i nx : Nat) (hi : i < nx) (hq : q < l.length) (hl : TokOK l) :
  RetX Tryz.prog 129 [.u (.sl (ws.map fun w => [.str w])), .bnd (.func 127) [.ptr i 0]] [(i, pOb l q)] nx
   (fun r o n => r = .val (match atW l q ws with | some j => zid j | none => zid (-1)) /\ o = [(i, pOb l (if (atW l q ws).isSome then q + 1 else q))] /\ n = nx) := by
 have hne := zaE hi;generalize hA : atW l q ws = A
 (refine RetX.of_bodyW Tryz.func129 rfl (by simp) fun Γ hn hpan => ?_); simp only [entry, ziC, ziN, maC, maN, oA, Tryz.ntmps129]
 refine ziu (x := 0) rfl fun hll => ?_;simp at hll
 repeat' (first
  | ((first | refine zaf ?_ | refine zaj ?_ | refine zag ?_ | refine zas ?_ | fail); simp)
  | fail)
 refine zdL (α := { j : Nat // j <= ws.length /\ ∀ w ∈ ws.take j, isB l q w = false }) [0, 1, 7] (fun x => [(8, .u (.int .i64 x.1))]) (fun x => [(i, pOb l q)]) nx (fun x => ws.length - x.1) ⟨0, by omega, by simp⟩ ?_ ?_
 ·exact (Wk.cut rfl (by simp [hn, St.lp]) (by simp [wkO, St.lp, zaa, getK, Ob.under, D.under, zad, zah, hi]) (by simp [wkU, St.lp, zak, zaa, getK, D.under, hi]) (by simp [wkE, St.lp, zak, zaa, getK, hi] <;> (try (intros; simp_all; done)) <;> (try (intros; omega)) <;> (try grind)))
 rintro ⟨j, h1, h2⟩;simp [St.lp, St.only, zak, zaa, getK];rcases hx : ws[j]? with _ | w
 ·have hge : ws.length <= j := by simpa using hx
  rw [List.take_of_length_le hge] at h2;have hn0 : atW l q ws = none := by
   unfold atW;rw [List.findIdx?_eq_none_iff];exact h2
  rw [hn0] at hA;subst hA
  repeat' (first
  | ((first | refine zaf ?_ | refine zaj ?_ | fail); simp [hx])
  | (refine ⟨by omega, ?_⟩)
  | (refine zag ?_; simp [hx])
  | (refine zap ?_; simp only [zao])
  | (refine zbq ?_; simp [zao])
  | (intro hc <;> (try (exfalso; omega)))
  | fail)
  (refine EndW.here ?_; (first | (refine EndOK.fin (.inr rfl) ?_) | (refine EndOK.fin (.inl rfl) ?_)); simp [zay, zae, Tryz.results129]; refine FinOK.here (by simp) ?_; try simp)
 ·have hlt : j < ws.length := (lGE.1 hx).1;have hh := zbj l q w i nx hi hq hl.len;cases hb : isB l q w with
  | false =>
   rw [hb, if_neg (by simp)] at hh
   repeat' (first
  | ((first | refine zaf ?_ | refine zaj ?_ | refine zag ?_ | fail); simp [hx])
  | (refine zar ?_; simp only [zao])
  | (refine ⟨?_, by omega⟩)
  | (intro hc <;> (try (exfalso; omega)))
  | fail)
   refine CallP.bok hh (by simp [zaa, getK]) rfl (by first | assumption | simp) rfl (by simp) ?_
   repeat' (first
  | ((first | refine zaf ?_ | refine zaj ?_ | fail); simp [hx])
  | (refine ⟨by omega, ?_⟩)
  | ((first | refine zai ?_ | refine zat ?_ | fail); simp [hx])
  | (refine zar ?_; simp only [zao])
  | fail)
   refine LoopW.next ⟨j + 1, by omega, za5 hx h2 hb⟩ (by simp; omega) ?_
   exact (Wk.cut rfl (by simp [hn, St.lp]) (by simp [wkO, St.lp, zaa, getK, Ob.under, D.under, zad, zah, hi, zab, zac, zaa, getK]) (by simp [wkU, St.lp, zak, zaa, getK, D.under, hi, zab, zac, zaa, getK]) (by simp [wkE, St.lp, zak, zaa, getK, hi, zab, zac, zaa, getK] <;> (try (intros; simp_all; done)) <;> (try (intros; omega)) <;> (try grind)))
  | true =>
   rw [hb, if_pos rfl] at hh;have hn0 : atW l q ws = some j := by
    unfold atW;rw [List.findIdx?_eq_some_iff_getElem];obtain ⟨h3, h4⟩ := lGE.1 hx;refine ⟨h3, by rw [h4]; exact hb, fun k hk => ?_⟩;have := h2 ws[k] (by rw [List.mem_take_iff_getElem]; exact ⟨k, by omega, rfl⟩);simp [this]
   rw [hn0] at hA;subst hA
   repeat' (first
  | ((first | refine zaf ?_ | refine zaj ?_ | refine zag ?_ | fail); simp [hx])
  | (refine zar ?_; simp only [zao])
  | (refine ⟨?_, by omega⟩)
  | (intro hc <;> (try (exfalso; omega)))
  | fail)
   refine CallP.bok hh (by simp [zaa, getK]) rfl (by first | assumption | simp) rfl (by simp) ?_
   repeat' (first
  | ((first | refine zaf ?_ | refine zaj ?_ | refine zag ?_ | refine zai ?_ | fail); simp [hx])
  | (refine zap ?_; simp only [zao])
  | fail)
   (refine EndW.here ?_; (first | (refine EndOK.fin (.inr rfl) ?_) | (refine EndOK.fin (.inl rfl) ?_)); simp [zay, zae, Tryz.results129]; refine FinOK.here (by simp) ?_; try simp)
def zcT : Nat -> Exp -> Int -> Int
 | 0, _, most => most + 1
 | L + 1, e, most => if 40 < e.s.length then most + 1 else e.args.foldl (fun n x => if n <= most then n + zcT L x (most - n) else n) 1
theorem zj5 (L : Nat) (e : Exp) (most : Int) : zcT (L + 1) e most = if 40 < e.s.length then most + 1 else e.args.foldl (fun n x => if n <= most then n + zcT L x (most - n) else n) 1 := by rw [zcT]
theorem zgC : ∀ (L : Nat) (e : Exp) (most : Int), 0 <= most -> 1 <= zcT L e most /\ zcT L e most <= most + 1
 | 0, e, most, h => by rw [zcT]; omega
 | L + 1, e, most, h => by
  rw [zcT];split
  ·omega
  ·have : ∀ (l : List Exp) (n : Int), 1 <= n -> n <= most + 1 -> 1 <= l.foldl (fun n x => if n <= most then n + zcT L x (most - n) else n) n /\ l.foldl (fun n x => if n <= most then n + zcT L x (most - n) else n) n <= most + 1 := by
    intro l
    induction l with
    | nil => intro n h1 h2; exact ⟨h1, h2⟩
    | cons a l ih =>
     intro n h1 h2;rw [List.foldl_cons];split
     ·rename_i hn;have := zgC L a (most - n) (by omega);exact ih _ (by omega) (by omega)
     ·exact ih n h1 h2
   exact this _ 1 (by omega) (by omega)
theorem zhz {L : Nat} {most : Int} : ∀ (l : List Exp) (n : Int), ¬ n <= most -> l.foldl (fun n x => if n <= most then n + zcT L x (most - n) else n) n = n
 | [], _, _ => rfl
 | a :: l, n, h => by rw [List.foldl_cons, if_neg h]; exact zhz l n h
theorem zje : ∀ (L : Nat) (e : Exp) (most : Int), 0 <= most -> most <= 1000 -> (L : Int) <= 100 -> Fun Tryz.prog 74 [ze2 e, .u (.int .i64 most), .u (.int .i64 L)] (· = .u (.int .i64 (zcT L e most)))
 | 0, e, most, _, _, _ => by
  rw [zcT]
  (refine Fun.of_body Tryz.func74 rfl (by simp) fun Γ hn => ?_); simp only [entry, ziC, ziN, maC, maN, oA, Tryz.ntmps74]
  simp only [ze2]
  repeat' (first
  | ((first | refine zaf ?_ | refine zaj ?_ | fail); simp)
  | (refine ⟨by omega, ?_⟩)
  | ((first | refine zag ?_ | refine zai ?_ | fail); simp)
  | (refine zap ?_; simp only [zao])
  | fail)
  (refine EndOK.val (.inr rfl) ?_; simp [zay, zae, zaq, Tryz.results74])
 | L + 1, e, most, h0, h1, hL => by
  rw [zj5];by_cases hs : 40 < e.s.length
  ·rw [if_pos hs]
   (refine Fun.of_body Tryz.func74 rfl (by simp) fun Γ hn => ?_); simp only [entry, ziC, ziN, maC, maN, oA, Tryz.ntmps74]
   simp only [ze2]
   repeat' (first
  | ((first | refine zaf ?_ | refine zaj ?_ | fail); simp)
  | (refine ⟨by omega, ?_⟩)
  | ((first | refine zag ?_ | refine zai ?_ | fail); simp)
  | (refine zap ?_; simp only [zao])
  | (refine ⟨?_, by omega⟩)
  | (intro hc <;> (try (exfalso; omega)))
  | fail)
   all_goals first
    | (exfalso; omega)
    | ((refine EndOK.val (.inr rfl) ?_; simp [zay, zae, zaq, Tryz.results74]); done)
  rw [if_neg hs];generalize hg : (e.args.foldl (fun n x => if n <= most then n + zcT L x (most - n) else n) 1) = g
  (refine Fun.of_body Tryz.func74 rfl (by simp) fun Γ hn => ?_); simp only [entry, ziC, ziN, maC, maN, oA, Tryz.ntmps74]
  simp only [ze2];refine znt (x := 0) (j := 4) rfl rfl fun hl => ?_;simp only [List.length_map] at hl
  repeat' (first
  | ((first | refine zaf ?_ | refine zaj ?_ | fail); simp)
  | (refine ⟨by omega, ?_⟩)
  | ((first | refine zag ?_ | refine zai ?_ | refine zas ?_ | fail); simp)
  | (refine zar ?_; simp only [zao])
  | (refine ⟨?_, by omega⟩)
  | (intro hc <;> (try (exfalso; omega)))
  | fail)
  refine zbU (α := { p : Nat × Int // p.1 <= e.args.length /\ 1 <= p.2 /\ p.2 <= most + 1 /\ g = (e.args.drop p.1).foldl (fun n x => if n <= most then n + zcT L x (most - n) else n) p.2 }) [1, 2, 3] (fun p => [(7, .u (.int .i64 p.1.2)), (8, .u (.int .i64 p.1.1))]) (fun p => e.args.length - p.1.1) ⟨(0, 1), by simp, by simp, by simp; omega, by simp [hg]⟩ ?_ ?_
  ·exact (Wk.cut rfl (by simp [hn, St.lp]) (by simp [wkO, St.lp, zaa, getK, Ob.under, D.under, zad, zah]) (by simp [wkU, St.lp, zak, zaa, getK, D.under]) (by simp [wkE, St.lp, zak, zaa, getK] <;> (try (intros; simp_all; done)) <;> (try (intros; omega)) <;> (try grind)))
  rintro ⟨⟨i, n⟩, hi, hn1, hn2, hgn⟩;simp only at hi hn1 hn2 hgn;simp [St.lp, St.only, zak, zaa, getK];rcases hx : e.args[i]? with _ | x
  ·have hge : e.args.length <= i := by simpa using hx
   rw [List.drop_of_length_le hge] at hgn
   repeat' (first
  | ((first | refine zaf ?_ | refine zaj ?_ | fail); simp [hx])
  | (refine ⟨by omega, ?_⟩)
  | ((first | refine zag ?_ | refine zai ?_ | fail); simp [hx])
  | (refine zap ?_; simp only [zao])
  | (refine zbq ?_; simp [zao])
  | (intro hc <;> (try (exfalso; omega)))
  | fail)
   (refine EndOK.val (.inr rfl) ?_; simp [zay, zae, zaq, Tryz.results74])
   rw [hgn]; rfl
  ·have hlt : i < e.args.length := (lGE.1 hx).1;by_cases hm : n <= most
   ·have h5 := zje L x (most - n) (by omega) (by omega) (by omega);have hb := zgC L x (most - n) (by omega);simp only [ze2] at h5;rw [List.drop_eq_getElem_cons hlt, List.foldl_cons, if_pos hm, (lGE.1 hx).2] at hgn;generalize zcT L x (most - n) = y at h5 hb hgn
    repeat' (first
  | ((first | refine zaf ?_ | refine zaj ?_ | fail); simp [hx, x.row_eq])
  | (refine ⟨by omega, ?_⟩)
  | ((first | refine zag ?_ | refine zai ?_ | refine zat ?_ | fail); simp [hx, x.row_eq])
  | (refine zar ?_; simp only [zao])
  | (refine ⟨?_, by omega⟩)
  | (intro hc <;> (try (exfalso; omega)))
  | (refine CallP.fE (h5) (by first | rfl | fail) (by first | simp [hx, x.row_eq] <;> rfl | fail) ?_; (try simp [hx, x.row_eq]))
  | fail)
    refine LoopW.next ⟨(i + 1, n + y), (by omega : i + 1 <= e.args.length), (by omega : 1 <= n + y), (by omega : n + y <= most + 1), hgn⟩ (by simp; omega) ?_
    exact (Wk.cut rfl (by simp [hn, St.lp]) (by simp [wkO, St.lp, zaa, getK, Ob.under, D.under, zad, zah]) (by simp [wkU, St.lp, zak, zaa, getK, D.under]) (by simp [wkE, St.lp, zak, zaa, getK] <;> (try (intros; simp_all; done)) <;> (try (intros; omega)) <;> (try grind)))
   ·rw [zhz _ _ hm] at hgn
    repeat' (first
  | ((first | refine zaf ?_ | refine zaj ?_ | fail); simp [hx])
  | (refine ⟨by omega, ?_⟩)
  | ((first | refine zag ?_ | refine zai ?_ | fail); simp [hx])
  | (refine zap ?_; simp only [zao])
  | (refine zbq ?_; simp [zao])
  | (refine ⟨?_, by omega⟩)
  | (intro hc <;> (try (exfalso; omega)))
  | fail)
    (refine EndOK.val (.inr rfl) ?_; simp [zay, zae, zaq, Tryz.results74])
    rw [hgn]
def zjN (e : Exp) : Bool := decide (zcT 16 e 60 <= 60)
theorem zlQ (e : Exp) : Fun Tryz.prog 31 [.u (.agg e.row)] (· = .u (.bool (zjN e))) := by
 have h2 := zje 16 e 60 (by omega) (by omega) (by omega);unfold zjN;rw [Exp.row_eq];simp only [ze2] at h2 ⊢;generalize zcT 16 e 60 = y at h2 ⊢
 (refine Fun.of_body Tryz.func31 rfl (by simp) fun Γ hn => ?_); simp only [entry, ziC, ziN, maC, maN, oA, Tryz.ntmps31]
 repeat' (first
  | ((first | refine zaf ?_ | refine zaj ?_ | refine zag ?_ | fail); simp)
  | (refine zap ?_; simp only [zao])
  | (refine CallP.fE (h2) (by first | rfl | fail) (by first | (simp; done) | (simp; rfl) | fail) ?_; (try simp))
  | fail)
 (refine EndOK.val (.inr rfl) ?_; simp [zay, zae, zaq, Tryz.results31])
theorem zna (b : By) : ∃ B : Bool, Fun Tryz.prog 18 [.u (.agg (zaS b))] (· = .u (.bool B)) := by
 have hf : ∀ e : Exp, Fun Tryz.prog 31 [.u (.agg [.int .i64 e.op, .int .i64 e.n, .int .i64 e.unit, .str e.s, .sl (e.args.map Exp.row)])] (· = .u (.bool (zjN e))) := fun e => by
  have := zlQ e
  rwa [Exp.row_eq] at this
 have f1 := hf b.due;have f2 := hf b.fine;have f3 := hf b.pay;have f4 := hf b.cover;have f5 := hf b.hold
 let ok : Let -> Bool := fun l => decide (l.name.length <= 40) && zjN l.body
 refine ⟨(b.lets.take 23).all ok && (decide ((b.lets.length : Int) <= 22) && zjN b.due && zjN b.fine && zjN b.pay && zjN b.cover && zjN b.hold), ?_⟩;generalize hC : ((b.lets.take 23).all ok) = C;generalize zjN b.due = y1 at *;generalize zjN b.fine = y2 at *;generalize zjN b.pay = y3 at *;generalize zjN b.cover = y4 at *;generalize zjN b.hold = y5 at *
 (refine Fun.of_body Tryz.func18 rfl (by simp) fun Γ hn => ?_); simp only [entry, ziC, ziN, maC, maN, oA, Tryz.ntmps18]
 simp only [zaS]
 repeat' (first
  | ((first | refine zaf ?_ | refine zaj ?_ | refine zag ?_ | refine zas ?_ | fail); simp)
  | fail)
 refine zbU (α := { i : Nat // i <= b.lets.length /\ (i : Int) <= 23 /\ ∀ l ∈ b.lets.take i, ok l = true }) [1, 2] (fun i => [(3, .u (.int .i64 i.1))]) (fun i => b.lets.length - i.1) ⟨0, by omega, by omega, by simp⟩ ?_ ?_
 ·exact (Wk.env rfl rfl rfl (by simp [wkE, St.lp, zak, zaa, getK] <;> (try (intros; simp_all; done)) <;> (try (intros; omega)) <;> (try grind)))
 rintro ⟨i, hi, hin, hb⟩;simp [St.lp, St.only, zak, zaa, getK];have fin : (i = b.lets.length \/ (i : Int) = 23) -> C = true := fun h => by
  rw [<- hC, List.all_eq_true];intro l hl;refine hb l ?_;rcases h with h | h
  ·rw [h, List.take_length]; exact List.mem_of_mem_take hl
  ·rw [show i = 23 by omega]; exact hl
 rcases hx : b.lets[i]? with _ | l
 ·have hge : b.lets.length <= i := by simpa using hx
  obtain rfl : i = b.lets.length := by omega
  have := fin (.inl rfl);subst this
  repeat' (first
  | ((first | refine zaf ?_ | refine zaj ?_ | refine zag ?_ | refine zai ?_ | fail); simp [hx])
  | (refine zap ?_; simp only [zao])
  | (refine zbq ?_; simp [zao])
  | (refine ⟨fun hc => ?_, fun hc => ?_⟩ <;> (try (exfalso; omega)))
  | (refine CallP.fE (f1) (by first | rfl | fail) (by first | simp [hx] <;> rfl | fail) ?_; (try simp [hx]))
  | (refine CallP.fE (f2) (by first | rfl | fail) (by first | simp [hx] <;> rfl | fail) ?_; (try simp [hx]))
  | (refine CallP.fE (f3) (by first | rfl | fail) (by first | simp [hx] <;> rfl | fail) ?_; (try simp [hx]))
  | (refine CallP.fE (f4) (by first | rfl | fail) (by first | simp [hx] <;> rfl | fail) ?_; (try simp [hx]))
  | (refine CallP.fE (f5) (by first | rfl | fail) (by first | simp [hx] <;> rfl | fail) ?_; (try simp [hx]))
  | fail)
  all_goals
   (refine EndOK.val (.inr rfl) ?_; simp [zay, zae, zaq, Tryz.results18])
  all_goals (clear hC fin hf f1 f2 f3 f4 f5; simp_all <;> (try (intros; omega)))
 ·have hlt : i < b.lets.length := (lGE.1 hx).1;have f6 := hf l.body;by_cases hm : (i : Int) < 23
  ·by_cases hnv : 40 < l.name.length
   ·have hnv1 : 40 < (l.name.length : Int) := by omega
    repeat' (first
  | ((first | refine zaf ?_ | refine zaj ?_ | refine zag ?_ | refine zai ?_ | fail); simp [hx, hm, hnv, hnv1])
  | ((first | refine zap ?_ | refine zar ?_ | fail); simp only [zao])
  | (refine ⟨?_, by omega⟩)
  | (intro hc <;> (try (exfalso; omega)))
  | fail)
    (refine EndOK.val (.inr rfl) ?_; simp [zay, zae, zaq, Tryz.results18])
    have : C = false := by
     rw [<- hC, List.all_eq_false];exact ⟨l, List.mem_of_getElem? (i := i) (by rw [List.getElem?_take, if_pos (by omega)]; exact hx), by simp [ok]; omega⟩
    simp [this]
   ·have hnv1 : ¬ 40 < (l.name.length : Int) := by omega
    have hok : ok l = zjN l.body := by simp [ok]; omega
    generalize zjN l.body = y6 at f6 hok;cases y6 with
    | false =>
     repeat' (first
  | ((first | refine zaf ?_ | refine zaj ?_ | refine zag ?_ | refine zai ?_ | fail); simp [hx, hm, hnv, hnv1])
  | ((first | refine zap ?_ | refine zar ?_ | fail); simp only [zao])
  | (refine ⟨?_, by omega⟩)
  | (intro hc <;> (try (exfalso; omega)))
  | (refine CallP.fE (f6) (by first | rfl | fail) (by first | simp [hx, hm, hnv, hnv1] <;> rfl | fail) ?_; (try simp [hx, hm, hnv, hnv1]))
  | fail)
     (refine EndOK.val (.inr rfl) ?_; simp [zay, zae, zaq, Tryz.results18])
     have : C = false := by
      rw [<- hC, List.all_eq_false];exact ⟨l, List.mem_of_getElem? (i := i) (by rw [List.getElem?_take, if_pos (by omega)]; exact hx), by simp [hok]⟩
     simp [this]
    | true =>
     repeat' (first
  | ((first | refine zaf ?_ | refine zaj ?_ | fail); simp [hx, hm, hnv, hnv1])
  | (refine ⟨by omega, ?_⟩)
  | ((first | refine zag ?_ | refine zai ?_ | refine zat ?_ | fail); simp [hx, hm, hnv, hnv1])
  | (refine zar ?_; simp only [zao])
  | (refine ⟨?_, by omega⟩)
  | (intro hc <;> (try (exfalso; omega)))
  | (refine CallP.fE (f6) (by first | rfl | fail) (by first | simp [hx, hm, hnv, hnv1] <;> rfl | fail) ?_; (try simp [hx, hm, hnv, hnv1]))
  | fail)
     refine LoopW.next ⟨i + 1, by omega, by omega, za5 hx hb hok⟩ (by simp; omega) ?_
     exact (Wk.env rfl rfl rfl (by simp [wkE, St.lp, zak, zaa, getK] <;> (try (intros; simp_all; done)) <;> (try (intros; omega)) <;> (try grind)))
  ·have := fin (.inr (by omega));subst this
   repeat' (first
  | ((first | refine zaf ?_ | refine zaj ?_ | fail); simp [hx, hm])
  | (refine ⟨by omega, ?_⟩)
  | ((first | refine zag ?_ | refine zai ?_ | fail); simp [hx, hm])
  | (refine zap ?_; simp only [zao])
  | (refine zbq ?_; simp [zao])
  | (refine ⟨?_, by omega⟩)
  | (intro hc <;> (try (exfalso; omega)))
  | fail)
   all_goals
    (refine EndOK.val (.inr rfl) ?_; simp [zay, zae, zaq, Tryz.results18])
   all_goals (clear hC fin hf f1 f2 f3 f4 f5; simp_all <;> (try (intros; omega)))
abbrev zfP (a b : Exp) : Prop := Fun Tryz.prog 15 [.u (.agg a.row), .u (.agg b.row)] (· = .u (.bool (eqB a b)))
theorem zmh : ∀ (n : Nat) (a b : Exp), SizeOf.sizeOf a <= n -> zfP a b := by
 intro n
 induction n with
 | zero =>
  intro a b h;cases a with
  | mk op n u s args => simp only [Exp.mk.sizeOf_spec] at h; omega
 | succ n ih =>
  intro a b hs;have hch : ∀ x ∈ a.args, ∀ y, zfP x y := fun x hx y => ih x y (by have := Exp.ze5 hx; omega);unfold zfP;have key : ∀ B : Bool, (B = true ↔ a = b) -> eqB a b = B := fun B h => by
   cases B with
   | true => exact zb0.2 (h.1 rfl)
   | false => exact zbC fun e => by have := h.2 e; cases this
  have hmk : a = b ↔ a.op = b.op /\ a.n = b.n /\ a.unit = b.unit /\ a.s = b.s /\ a.args = b.args := by
   cases a; cases b;simp only [Exp.op, Exp.n, Exp.unit, Exp.s, Exp.args, Exp.mk.injEq]
  rw [Exp.row_eq, Exp.row_eq b];by_cases c1 : a.op = b.op
  ·by_cases c2 : a.n = b.n
   ·by_cases c3 : a.unit = b.unit
    ·by_cases c4 : a.s = b.s
     ·by_cases c5 : a.args.length = b.args.length
      ·have c5' : (a.args.length : Int) = b.args.length := by omega
       rw [key (eqB a.args b.args) (by rw [zb0, hmk]; exact ⟨fun h => ⟨c1, c2, c3, c4, h⟩, fun h => h.2.2.2.2⟩)];clear key hmk
       (refine Fun.of_body Tryz.func15 rfl (by simp) fun Γ hn => ?_); simp only [entry, ziC, ziN, maC, maN, oA, Tryz.ntmps15]
       refine znt (x := 0) (j := 4) rfl rfl fun hll => ?_;simp only [List.length_map] at hll
       repeat' (first
  | ((first | refine zaf ?_ | refine zaj ?_ | refine zag ?_ | refine zai ?_ | refine zas ?_ | fail); simp [c1, c2, c3, c4, c5, c5'])
  | (refine zar ?_; simp only [zao])
  | fail)
       refine zdL (α := { i : Nat // i <= a.args.length /\ a.args.take i = b.args.take i }) [2, 3, 4] (fun x => [(5, .u (.int .i64 x.1))]) (fun x => [(1, .box [.u (.int .i64 b.op), .u (.int .i64 b.n), .u (.int .i64 b.unit), .u (.str b.s), .u (.sl (b.args.map Exp.row))]), (0, .box [.u (.int .i64 a.op), .u (.int .i64 a.n), .u (.int .i64 a.unit), .u (.str a.s), .u (.sl (a.args.map Exp.row))])]) 2 (fun x => a.args.length - x.1) ⟨0, by omega, by simp⟩ ?_ ?_
       ·exact (Wk.cut rfl (by simp [hn, St.lp]) (by simp [wkO, St.lp, zaa, getK, Ob.under, D.under, zad, zah, c1, c2, c3, c4, c5]) (by simp [wkU, St.lp, zak, zaa, getK, D.under, c1, c2, c3, c4, c5]) (by simp [wkE, St.lp, zak, zaa, getK, c1, c2, c3, c4, c5] <;> (try (intros; simp_all; done)) <;> (try (intros; omega)) <;> (try grind)))
       rintro ⟨i, hi, hb⟩;simp [St.lp, St.only, zak, zaa, getK];rcases hx : a.args[i]? with _ | x
       ·have hge : a.args.length <= i := by simpa using hx
        obtain rfl : i = a.args.length := by omega
        rw [List.take_of_length_le (Nat.le_refl _), List.take_of_length_le (by omega)] at hb;rw [zb0.2 hb]
        repeat' (first
  | ((first | refine zaf ?_ | refine zaj ?_ | refine zag ?_ | refine zai ?_ | fail); simp [hx, c5])
  | (refine zap ?_; simp only [zao])
  | (refine zbq ?_; simp [zao])
  | fail)
        (refine EndOK.val (.inr rfl) ?_; simp [zay, zae, zaq, Tryz.results15])
       ·have hlt : i < a.args.length := (lGE.1 hx).1;have hlt2 : i < b.args.length := by omega
        obtain ⟨y, hy⟩ : ∃ y, b.args[i]? = some y := ⟨_, List.getElem?_eq_getElem hlt2⟩;have hi2 : (i : Int) < b.args.length := by omega
        have hi1 : (i : Int) < a.args.length := by omega
        have h1 : zfP x y := hch x (List.mem_of_getElem? hx) y;unfold zfP at h1;by_cases hab : x = y
        ·rw [zb0.2 hab] at h1;rw [Exp.row_eq, Exp.row_eq] at h1;have hsn : a.args.take (i + 1) = b.args.take (i + 1) := by
          rw [List.take_succ_eq_append_getElem hlt, List.take_succ_eq_append_getElem hlt2, hb, (lGE.1 hx).2, (lGE.1 hy).2, hab]
         repeat' (first
  | ((first | refine zaf ?_ | refine zaR rfl ?_ | refine zaj ?_ | fail); simp [hx, hy, hi1, hi2, c5, Exp.row_eq])
  | (refine ⟨by omega, ?_⟩)
  | ((first | refine zag ?_ | refine zai ?_ | fail); simp [hx, hy, hi1, hi2, c5, Exp.row_eq])
  | (refine zaX (hC _ (by kernel_rfl)) (hk _ ?_); clear hC hk C k; simp only [zao])
  | (refine za2 rfl (by kernel_rfl) (by first | (simp [hn]; done) | (simp [hn]; omega) | fail) fun C k hC hk => ?_; simp [hx, hy, hi1, hi2, c5, Exp.row_eq])
  | (refine zat ?_; simp [hx, hy, hi1, hi2, c5, Exp.row_eq])
  | (refine zar ?_; simp only [zao])
  | (refine CallV.fun_ (h1) (by first | rfl | fail) (by first | simp [hx, hy, hi1, hi2, c5, Exp.row_eq] <;> rfl | fail) ?_ <;> (try simp [hx, hy, hi1, hi2, c5, Exp.row_eq]))
  | fail)
         refine LoopW.next ⟨i + 1, by omega, hsn⟩ (by simp; omega) ?_
         exact (Wk.cut rfl (by simp [hn, St.lp]) (by simp [wkO, St.lp, zaa, getK, Ob.under, D.under, zad, zah, c5]) (by simp [wkU, St.lp, zak, zaa, getK, D.under, c5]) (by simp [wkE, St.lp, zak, zaa, getK, c5] <;> (try (intros; simp_all; done)) <;> (try (intros; omega)) <;> (try grind)))
        ·rw [zbC hab] at h1;rw [Exp.row_eq, Exp.row_eq] at h1;have hne : a.args ≠ b.args := fun e => by rw [e] at hx; rw [hx] at hy; cases hy; exact hab rfl
         rw [zbC hne]
         repeat' (first
  | ((first | refine zaf ?_ | refine zaR rfl ?_ | refine zaj ?_ | refine zag ?_ | refine zai ?_ | fail); simp [hx, hy, hi1, hi2, c5, Exp.row_eq])
  | (refine zaX (hC _ (by kernel_rfl)) (hk _ ?_); clear hC hk C k; simp only [zao])
  | (refine za2 rfl (by kernel_rfl) (by first | (simp [hn]; done) | (simp [hn]; omega) | fail) fun C k hC hk => ?_; simp [hx, hy, hi1, hi2, c5, Exp.row_eq])
  | ((first | refine zap ?_ | refine zar ?_ | fail); simp only [zao])
  | (refine CallV.fun_ (h1) (by first | rfl | fail) (by first | simp [hx, hy, hi1, hi2, c5, Exp.row_eq] <;> rfl | fail) ?_ <;> (try simp [hx, hy, hi1, hi2, c5, Exp.row_eq]))
  | fail)
         (refine EndOK.val (.inr rfl) ?_; simp [zay, zae, zaq, Tryz.results15])
      ·have c5' : ¬ (a.args.length : Int) = b.args.length := by omega
       rw [key false (by rw [hmk]; simp; intro _ _ _ _ h; exact c5 (by rw [h]))]
       (refine Fun.of_body Tryz.func15 rfl (by simp) fun Γ hn => ?_); simp only [entry, ziC, ziN, maC, maN, oA, Tryz.ntmps15]
       repeat' (first
  | ((first | refine zaf ?_ | refine zaj ?_ | refine zag ?_ | refine zai ?_ | fail); simp [c1, c2, c3, c4, c5, c5'])
  | (refine zap ?_; simp only [zao])
  | fail)
       (refine EndOK.val (.inr rfl) ?_; simp [zay, zae, zaq, Tryz.results15])
     ·rw [key false (by rw [hmk]; simp [c4])]
      (refine Fun.of_body Tryz.func15 rfl (by simp) fun Γ hn => ?_); simp only [entry, ziC, ziN, maC, maN, oA, Tryz.ntmps15]
      repeat' (first
  | ((first | refine zaf ?_ | refine zaj ?_ | refine zag ?_ | refine zai ?_ | fail); simp [c1, c2, c3, c4])
  | (refine zap ?_; simp only [zao])
  | fail)
      (refine EndOK.val (.inr rfl) ?_; simp [zay, zae, zaq, Tryz.results15])
    ·rw [key false (by rw [hmk]; simp [c3])]
     (refine Fun.of_body Tryz.func15 rfl (by simp) fun Γ hn => ?_); simp only [entry, ziC, ziN, maC, maN, oA, Tryz.ntmps15]
     repeat' (first
  | ((first | refine zaf ?_ | refine zaj ?_ | refine zag ?_ | refine zai ?_ | fail); simp [c1, c2, c3])
  | (refine zap ?_; simp only [zao])
  | fail)
     (refine EndOK.val (.inr rfl) ?_; simp [zay, zae, zaq, Tryz.results15])
   ·rw [key false (by rw [hmk]; simp [c2])]
    (refine Fun.of_body Tryz.func15 rfl (by simp) fun Γ hn => ?_); simp only [entry, ziC, ziN, maC, maN, oA, Tryz.ntmps15]
    repeat' (first
  | ((first | refine zaf ?_ | refine zaj ?_ | refine zag ?_ | refine zai ?_ | fail); simp [c1, c2])
  | (refine zap ?_; simp only [zao])
  | fail)
    (refine EndOK.val (.inr rfl) ?_; simp [zay, zae, zaq, Tryz.results15])
  ·rw [key false (by rw [hmk]; simp [c1])]
   (refine Fun.of_body Tryz.func15 rfl (by simp) fun Γ hn => ?_); simp only [entry, ziC, ziN, maC, maN, oA, Tryz.ntmps15]
   repeat' (first
  | ((first | refine zaf ?_ | refine zaj ?_ | refine zag ?_ | refine zai ?_ | fail); simp [c1])
  | (refine zap ?_; simp only [zao])
  | fail)
   (refine EndOK.val (.inr rfl) ?_; simp [zay, zae, zaq, Tryz.results15])
theorem zbX (a b : Exp) : zfP a b := zmh (SizeOf.sizeOf a) a b (Nat.le_refl _)
theorem ziO : Fun Tryz.prog 30 [] (· = .u (.agg nothingE.row)) := by
 simp only [nothingE, Exp.row, List.map_nil]
 (refine Fun.of_bodyW Tryz.func30 rfl (by simp) fun Γ hn => ?_); simp only [entry, ziC, ziN, maC, maN, oA, Tryz.ntmps30]
 repeat' (first
  | ((first | refine zaf ?_ | refine zaj ?_ | refine zag ?_ | fail); simp)
  | (refine zap ?_; simp only [zao])
  | fail)
 refine EndW.norm ?_;simp [St.norm, zbi, zb2, zcq, zcr];refine EndW.here ?_
 (refine EndOK.val (.inr rfl) ?_; simp [zay, zae, zaq, Tryz.results30])
theorem zmt (l : List Tok) (p : Nat) (i nx : Nat) (hi : i < nx) (hp : p < l.length) (hl : TokOK l) :
  RetX Tryz.prog 81 [.ptr i 0] [(i, pOb l p)] nx (PPost l i nx zid (zgz l p)) := by
 have hne := zaE hi;have hll := hl.len;have hor := zfw;generalize hR : zgz l p = R;rw [zgz] at hR;have hh1 := fun nx' (h : nx <= nx') => zbj l p [111, 114, 100, 101, 114] i nx' (by omega) hp hl.len;by_cases c1 : isB l p [111, 114, 100, 101, 114] = true
 ·have g1 := zbc hl c1;rw [if_pos c1] at hR;simp only [c1, if_true] at hh1;have hix := fun nx' (h : nx <= nx') => zlF l (p + 1) ordersW i nx' (by omega) g1 hl;have hat : atW l (p + 1) ordersW = ordersW.findIdx? fun w => isB l (p + 1) w := rfl;rw [<- hat] at hR;obtain ⟨t, ht⟩ : ∃ t, l[p + 1]? = some t := ⟨_, List.getElem?_eq_getElem g1⟩;have hpa : zc0 l (p + 1) = t.pos := by unfold zc0; rw [ht]
  rw [hpa] at hR;cases hj : atW l (p + 1) ordersW with
  | none =>
   have hc2 := fun e nx' (h : nx <= nx') => zcM l (p + 1) t e i nx' (by omega) ht hl.len;rw [hj] at hR hix;simp only [Option.isSome_none, Bool.false_eq_true, if_false] at hR hix
   (refine RetX.of_bodyW Tryz.func81 rfl (by simp) fun Γ hn hpan => ?_); simp only [entry, ziC, ziN, maC, maN, oA, Tryz.ntmps81]
   repeat' (first
  | ((first | refine zaf ?_ | refine zaj ?_ | refine zag ?_ | refine zai ?_ | fail); simp [hne, del, nAA])
  | (refine zar ?_; simp only [zao])
  | (refine CallP.fE (hor) (by first | rfl | fail) (by first | simp [hne, del, nAA] <;> rfl | fail) ?_; (try simp [hne, del, nAA]))
  | (refine CallP.ok1 (hh1 _ (by first | omega | simp <;> omega | fail)) (by first | (simp [hne, del, nAA, zaa, getK, zab, zac]; done) | fail) (by rfl) (by rfl) ?_; (try simp [hne, del, nAA]))
  | (refine CallP.ok1 (hix _ (by first | omega | simp <;> omega | fail)) (by first | (simp [hne, del, nAA, zaa, getK, zab, zac]; done) | fail) (by rfl) (by rfl) ?_; (try simp [hne, del, nAA]))
  | (refine CallP.zeg (hc2 _ _ (by first | omega | simp <;> omega | fail)) (by first | (simp [hne, del, nAA, zaa, getK, zab, zac]; done) | fail) (by rfl) (by first | assumption | (simp; done) | fail) (by rfl) (by simp) ?_; rintro ob' ⟨q', rfl⟩; refine ⟨_, Wk.refl _, ?_⟩)
  | fail)
   (refine hpan _ _ ⟨{ n := _, env := [], obs := [(i, pOb l q')], next := nx }, (Wk.cut rfl (by simp [hn]) (by simp [wkO, zaa, getK, zab, zac, Ob.under, D.under, zad, zah, hi, hne, zab, zac, zaa, getK]) (by simp [wkU, zak, zaa, getK, D.under, hi, hne, zab, zac, zaa, getK]) (by simp [wkE, zak, zaa, getK, hi, hne, zab, zac, zaa, getK])), by simp [hn], ?_⟩; try simp)
   exact PPost.zaA hR.symm
  | some j =>
   have g2 : p + 1 + 1 < l.length := by
    unfold atW at hj;rw [List.findIdx?_eq_some_iff_getElem] at hj;obtain ⟨_, hb, _⟩ := hj;exact zbc hl hb
   have hj0 : (0 : Int) <= (j : Int) := by omega
   have hc1 := fun e nx' (h : nx <= nx') => zdF l (p + 1 + 1) e i nx' (by omega);rw [hj] at hR hix;simp only [Option.isSome_some, if_true] at hR hix
   (refine RetX.of_bodyW Tryz.func81 rfl (by simp) fun Γ hn hpan => ?_); simp only [entry, ziC, ziN, maC, maN, oA, Tryz.ntmps81]
   repeat' (first
  | ((first | refine zaf ?_ | refine zaj ?_ | refine zag ?_ | refine zai ?_ | fail); simp [hne, del, nAA, hj0])
  | (refine zar ?_; simp only [zao])
  | (refine CallP.fE (hor) (by first | rfl | fail) (by first | simp [hne, del, nAA, hj0] <;> rfl | fail) ?_; (try simp [hne, del, nAA, hj0]))
  | (refine CallP.ok1 (hh1 _ (by first | omega | simp <;> omega | fail)) (by first | (simp [hne, del, nAA, hj0, zaa, getK, zab, zac]; done) | fail) (by rfl) (by rfl) ?_; (try simp [hne, del, nAA, hj0]))
  | (refine CallP.ok1 (hix _ (by first | omega | simp <;> omega | fail)) (by first | (simp [hne, del, nAA, hj0, zaa, getK, zab, zac]; done) | fail) (by rfl) (by rfl) ?_; (try simp [hne, del, nAA, hj0]))
  | (refine CallP.ok1 (hc1 _ _ (by first | omega | simp <;> omega | fail)) (by first | (simp [hne, del, nAA, hj0, zaa, getK, zab, zac]; done) | fail) (by rfl) (by rfl) ?_; (try simp [hne, del, nAA, hj0]))
  | (refine zau (by first | rfl | fail) ?_; simp [hne, del, nAA, hj0, frzN, frz1, zaC, zaB, St.frz, St.frzS, frzS, fv, zaJ, za6, zba, zaG, zav, zan, del, frz, zbb])
  | fail)
   (refine CallP.pp (zeS hl [59] (q := p + 1 + 1) (i := i) (by first | omega | simp <;> omega | fail) g2) (by first | (simp [hi, hne, nAA, zaa, getK, zab, zac]; done) | fail) (by rfl) (by first | assumption | (simp; done) | fail) (by rfl) (by simp) (fun v2 q2 h2 => ?_) (fun pos e q' h2 => ⟨_, Wk.refl _, ?_⟩); rotate_left 1; (focus (rw [h2, PR.zaM] at hR; (refine hpan _ _ ⟨{ n := _, env := [], obs := [(i, pOb l q')], next := nx }, (Wk.cut rfl (by simp [hn]) (by simp [wkO, zaa, getK, zab, zac, Ob.under, D.under, zad, zah, hi, hne, nAA, zab, zac, zaa, getK]) (by simp [wkU, zak, zaa, getK, D.under, hi, hne, nAA, zab, zac, zaa, getK]) (by simp [wkE, zak, zaa, getK, hi, hne, nAA, zab, zac, zaa, getK])), by simp [hn], ?_⟩; try simp); exact PPost.zaA hR.symm)); rw [h2, PR.zaV] at hR; (try simp [hi, hne, nAA]))
   repeat' (first
  | ((first | refine zaf ?_ | refine zaj ?_ | refine zag ?_ | fail); simp [hne, del])
  | (refine zap ?_; simp only [zao])
  | fail)
   (refine EndW.here ?_; (first | (refine EndOK.fin (.inr rfl) ?_) | (refine EndOK.fin (.inl rfl) ?_)); simp [zay, zae, Tryz.results81, hne, hi]; refine FinOK.cut [(i, pOb l q2)] (nx) (by simp [zaa, getK, zab, zac, Ob.under, D.under, zad, zah, hne, hi] <;> omega) (by simp [D.under]) (by simp [hn]) ?_; try simp)
   exact PPost.zct hR.symm rfl rfl
 ·rw [if_neg c1] at hR;simp only [c1, Bool.false_eq_true, if_false] at hh1
  (refine RetX.of_bodyW Tryz.func81 rfl (by simp) fun Γ hn hpan => ?_); simp only [entry, ziC, ziN, maC, maN, oA, Tryz.ntmps81]
  repeat' (first
  | ((first | refine zaf ?_ | refine zaj ?_ | refine zag ?_ | refine zai ?_ | fail); simp [hne, del, nAA])
  | (refine zap ?_; simp only [zao])
  | (refine CallP.ok1 (hh1 _ (by first | omega | simp <;> omega | fail)) (by first | (simp [hne, del, nAA, zaa, getK, zab, zac]; done) | fail) (by rfl) (by rfl) ?_; (try simp [hne, del, nAA]))
  | fail)
  (refine EndW.here ?_; (first | (refine EndOK.fin (.inr rfl) ?_) | (refine EndOK.fin (.inl rfl) ?_)); simp [zay, zae, Tryz.results81, hne, hi]; refine FinOK.cut [(i, pOb l p)] (nx) (by simp [zaa, getK, zab, zac, Ob.under, D.under, zad, zah, hne, hi] <;> omega) (by simp [D.under]) (by simp [hn]) ?_; try simp)
  exact PPost.zct hR.symm rfl rfl
theorem zmu {l : List Tok} (hl : TokOK l) {p q : Nat} {n : Int} (h : zgz l p = .ok n q) (hp : p < l.length) : p <= q /\ q < l.length := by
 unfold zgz at h;split at h
 ·split at h
  ·rename_i j hj;rw [List.findIdx?_eq_some_iff_getElem] at hj;obtain ⟨_, hb, _⟩ := hj;obtain ⟨_, r2, h2, h⟩ := PR.zaH h;have g2 := za1 hl _ h2 (zbc hl hb);cases h;exact ⟨by omega, g2.2⟩
  ·cases h
 ·cases h; exact ⟨by omega, hp⟩
theorem ziL (x : Let) (s : W8) : Fun Tryz.prog 82 (zmY x :: [U.row [.str s] 0].map .u) (· = .u (.bool (decide (x.name = s)))) := by
 simp only [zmY, List.map_cons, List.map_nil]
 (refine Fun.of_body Tryz.func82 rfl (by simp) fun Γ hn => ?_); simp only [entry, ziC, ziN, maC, maN, oA, Tryz.ntmps82]
 repeat' (first
  | ((first | refine zaf ?_ | refine zaj ?_ | refine zag ?_ | fail); simp)
  | (refine zap ?_; simp only [zao])
  | fail)
 (refine EndOK.val (.inr rfl) ?_; simp [zay, zae, zaq, Tryz.results82])
theorem zmb (lets : List Let) (s : W8) : Fun Tryz.prog 67 [.u (zeV lets), .fnc (.func 82) [.u (.row [.str s] 0)]]
  (· = .u (.bool (lets.any fun x => decide (x.name = s)))) :=
 zfm lets 82 [U.row [.str s] 0] _ (fun x _ => ziL x s) (by simp) (fun _ => rfl) (fun _ => rfl)
theorem zlY (l : List Tok) (hl0 : 0 < l.length) (hl : TokOK l) (hl2 : l.length <= 2001) :
  RetX Tryz.prog 37 [.ptr 3 0] [(3, pOb l 0)] 4 (PPost l 3 4 byD (zph l)) := by
 have hi : 3 < 4 := by decide
 have hne := zaE hi;have hll := hl.len;have htE : True := trivial;generalize hR : zph l = R;rw [zph] at hR
 (refine RetX.of_bodyW Tryz.func37 rfl (by simp) fun Γ hn hpan => ?_); simp only [entry, ziC, ziN, maC, maN, oA, Tryz.ntmps37]
 repeat' (first
  | ((first | refine zaf ?_ | refine zaj ?_ | refine zag ?_ | fail); simp [hne])
  | fail)
 (refine CallP.pp (zn6 l 0 3 _ (by first | omega | simp <;> omega | fail) hl0 hl) (by first | (simp [hi, hne, del, htE, zaa, getK, zab, zac]; done) | fail) (by rfl) (by first | assumption | (simp; done) | fail) (by rfl) (by simp) (fun kb q1 h1 => ?_) (fun pos e q' h1 => ⟨_, Wk.refl _, ?_⟩); rotate_left 1; (focus (rw [h1, PR.zaM] at hR; (refine hpan _ _ ⟨{ n := _, env := [], obs := [(3, pOb l q')], next := 4 }, (Wk.cut rfl (by simp [hn]) (by simp [wkO, zaa, getK, zab, zac, Ob.under, D.under, zad, zah, hi, hne, del, htE, zab, zac, zaa, getK]) (by simp [wkU, zak, zaa, getK, D.under, hi, hne, del, htE, zab, zac, zaa, getK]) (by simp [wkE, zak, zaa, getK, hi, hne, del, htE, zab, zac, zaa, getK])), by simp [hn], ?_⟩; try simp); exact PPost.zaA hR.symm)); rw [h1, PR.zaV] at hR; (try simp [hi, hne, del, htE]))
 obtain ⟨_, g1⟩ := zn8 hl h1 hl0;have hm := zec l q1 [112, 101, 114, 105, 111, 100] g1 hl.len
 repeat' (first
  | ((first | refine zaf ?_ | refine zaj ?_ | refine zag ?_ | fail); simp [hne, del])
  | (refine CallP.fE (hm) (by first | rfl | fail) (by first | simp [hne, del] <;> rfl | fail) ?_; (try simp [hne, del]))
  | fail)
 (refine CallP.pp (zkv l q1 [112, 101, 114, 105, 111, 100] 3 _ (by first | omega | simp <;> omega | fail) g1 hl) (by first | (simp [hi, hne, del, htE, zaa, getK, zab, zac]; done) | fail) (by rfl) (by first | assumption | (simp; done) | fail) (by rfl) (by simp) (fun u2 q2 h2 => ?_) (fun pos e q' h2 => ⟨_, Wk.refl _, ?_⟩); rotate_left 1; (focus (rw [h2, PR.zaM] at hR; (refine hpan _ _ ⟨{ n := _, env := [], obs := [(3, pOb l q')], next := 4 }, (Wk.cut rfl (by simp [hn]) (by simp [wkO, zaa, getK, zab, zac, Ob.under, D.under, zad, zah, hi, hne, del, htE, zab, zac, zaa, getK]) (by simp [wkU, zak, zaa, getK, D.under, hi, hne, del, htE, zab, zac, zaa, getK]) (by simp [wkE, zak, zaa, getK, hi, hne, del, htE, zab, zac, zaa, getK])), by simp [hn], ?_⟩; try simp); exact PPost.zaA hR.symm)); rw [h2, PR.zaV] at hR; (try simp [hi, hne, del, htE]))
 obtain ⟨rfl, _⟩ := zmE h2
 repeat' (first
  | ((first | refine zaf ?_ | refine zaj ?_ | refine zag ?_ | fail); simp [hne, del])
  | (refine zau (by first | rfl | fail) ?_; simp [hne, del, frzN, frz1, zaC, zaB, St.frz, St.frzS, frzS, fv, zaJ, za6, zba, zaG, zav, zan, del, frz, zbb])
  | fail)
 (refine CallP.pp (zdC l q2 [112, 101, 114, 105, 111, 100] 1 1000 [[100, 97, 121, 115], [59]] 3 _ (by first | omega | simp <;> omega | fail) g1 hl (by simp)) (by first | (simp [hi, hne, del, htE, zaa, getK, zab, zac]; done) | fail) (by rfl) (by first | assumption | (simp; done) | fail) (by rfl) (by simp) (fun period q3 h3 => ?_) (fun pos e q' h3 => ⟨_, Wk.refl _, ?_⟩); rotate_left 1; (focus (rw [h3, PR.zaM] at hR; (refine hpan _ _ ⟨{ n := _, env := [], obs := [(3, pOb l q')], next := 4 }, (Wk.cut rfl (by simp [hn]) (by simp [wkO, zaa, getK, zab, zac, Ob.under, D.under, zad, zah, hi, hne, del, htE, zab, zac, zaa, getK]) (by simp [wkU, zak, zaa, getK, D.under, hi, hne, del, htE, zab, zac, zaa, getK]) (by simp [wkE, zak, zaa, getK, hi, hne, del, htE, zab, zac, zaa, getK])), by simp [hn], ?_⟩; try simp); exact PPost.zaA hR.symm)); rw [h3, PR.zaV] at hR; (try simp [hi, hne, del, htE]))
 obtain ⟨_, g3⟩ := zdD hl h3 g1
 repeat' (first
  | ((first | refine zaf ?_ | refine zaj ?_ | refine zag ?_ | fail); simp [hne, del])
  | fail)
 have hm := zec l q3 [108, 97, 115, 116] g3 hl.len
 repeat' (first
  | (refine zaf ?_; simp [hne, del])
  | (refine CallP.fE (hm) (by first | rfl | fail) (by first | simp [hne, del] <;> rfl | fail) ?_; (try simp [hne, del]))
  | fail)
 (refine CallP.pp (zkv l q3 [108, 97, 115, 116] 3 _ (by first | omega | simp <;> omega | fail) g3 hl) (by first | (simp [hi, hne, del, htE, zaa, getK, zab, zac]; done) | fail) (by rfl) (by first | assumption | (simp; done) | fail) (by rfl) (by simp) (fun u4 q4 h4 => ?_) (fun pos e q' h4 => ⟨_, Wk.refl _, ?_⟩); rotate_left 1; (focus (rw [h4, PR.zaM] at hR; (refine hpan _ _ ⟨{ n := _, env := [], obs := [(3, pOb l q')], next := 4 }, (Wk.cut rfl (by simp [hn]) (by simp [wkO, zaa, getK, zab, zac, Ob.under, D.under, zad, zah, hi, hne, del, htE, zab, zac, zaa, getK]) (by simp [wkU, zak, zaa, getK, D.under, hi, hne, del, htE, zab, zac, zaa, getK]) (by simp [wkE, zak, zaa, getK, hi, hne, del, htE, zab, zac, zaa, getK])), by simp [hn], ?_⟩; try simp); exact PPost.zaA hR.symm)); rw [h4, PR.zaV] at hR; (try simp [hi, hne, del, htE]))
 obtain ⟨rfl, _⟩ := zmE h4
 repeat' (first
  | ((first | refine zaf ?_ | refine zaj ?_ | refine zag ?_ | fail); simp [hne, del])
  | (refine zau (by first | rfl | fail) ?_; simp [hne, del, frzN, frz1, zaC, zaB, St.frz, St.frzS, frzS, fv, zaJ, za6, zba, zaG, zav, zan, del, frz, zbb])
  | fail)
 (refine CallP.pp (zdC l q4 [108, 97, 115, 116] 1 1000 [[59]] 3 _ (by first | omega | simp <;> omega | fail) g3 hl (by simp)) (by first | (simp [hi, hne, del, htE, zaa, getK, zab, zac]; done) | fail) (by rfl) (by first | assumption | (simp; done) | fail) (by rfl) (by simp) (fun last q5 h5 => ?_) (fun pos e q' h5 => ⟨_, Wk.refl _, ?_⟩); rotate_left 1; (focus (rw [h5, PR.zaM] at hR; (refine hpan _ _ ⟨{ n := _, env := [], obs := [(3, pOb l q')], next := 4 }, (Wk.cut rfl (by simp [hn]) (by simp [wkO, zaa, getK, zab, zac, Ob.under, D.under, zad, zah, hi, hne, del, htE, zab, zac, zaa, getK]) (by simp [wkU, zak, zaa, getK, D.under, hi, hne, del, htE, zab, zac, zaa, getK]) (by simp [wkE, zak, zaa, getK, hi, hne, del, htE, zab, zac, zaa, getK])), by simp [hn], ?_⟩; try simp); exact PPost.zaA hR.symm)); rw [h5, PR.zaV] at hR; (try simp [hi, hne, del, htE]))
 obtain ⟨_, g5⟩ := zdD hl h5 g3
 repeat' (first
  | ((first | refine zaf ?_ | refine zaj ?_ | refine zag ?_ | fail); simp [hne, del])
  | (refine zau (by first | rfl | fail) ?_; simp [hne, del, frzN, frz1, zaC, zaB, St.frz, St.frzS, frzS, fv, zaJ, za6, zba, zaG, zav, zan, del, frz, zbb])
  | fail)
 (refine CallP.pp (zdC l q5 [103, 114, 97, 99, 101] 0 1000 [[100, 97, 121, 115], [59]] 3 _ (by first | omega | simp <;> omega | fail) g5 hl (by simp)) (by first | (simp [hi, hne, del, htE, zaa, getK, zab, zac]; done) | fail) (by rfl) (by first | assumption | (simp; done) | fail) (by rfl) (by simp) (fun grace q6 h6 => ?_) (fun pos e q' h6 => ⟨_, Wk.refl _, ?_⟩); rotate_left 1; (focus (rw [h6, PR.zaM] at hR; (refine hpan _ _ ⟨{ n := _, env := [], obs := [(3, pOb l q')], next := 4 }, (Wk.cut rfl (by simp [hn]) (by simp [wkO, zaa, getK, zab, zac, Ob.under, D.under, zad, zah, hi, hne, del, htE, zab, zac, zaa, getK]) (by simp [wkU, zak, zaa, getK, D.under, hi, hne, del, htE, zab, zac, zaa, getK]) (by simp [wkE, zak, zaa, getK, hi, hne, del, htE, zab, zac, zaa, getK])), by simp [hn], ?_⟩; try simp); exact PPost.zaA hR.symm)); rw [h6, PR.zaV] at hR; (try simp [hi, hne, del, htE]))
 obtain ⟨_, g6⟩ := zdD hl h6 g5
 repeat' (first
  | ((first | refine zaf ?_ | refine zaj ?_ | refine zag ?_ | fail); simp [hne, del])
  | (refine zau (by first | rfl | fail) ?_; simp [hne, del, frzN, frz1, zaC, zaB, St.frz, St.frzS, frzS, fv, zaJ, za6, zba, zaG, zav, zan, del, frz, zbb])
  | fail)
 (refine CallP.pp (zdC l q6 [119, 97, 105, 116] 0 1000 [[100, 97, 121, 115], [59]] 3 _ (by first | omega | simp <;> omega | fail) g6 hl (by simp)) (by first | (simp [hi, hne, del, htE, zaa, getK, zab, zac]; done) | fail) (by rfl) (by first | assumption | (simp; done) | fail) (by rfl) (by simp) (fun wait q7 h7 => ?_) (fun pos e q' h7 => ⟨_, Wk.refl _, ?_⟩); rotate_left 1; (focus (rw [h7, PR.zaM] at hR; (refine hpan _ _ ⟨{ n := _, env := [], obs := [(3, pOb l q')], next := 4 }, (Wk.cut rfl (by simp [hn]) (by simp [wkO, zaa, getK, zab, zac, Ob.under, D.under, zad, zah, hi, hne, del, htE, zab, zac, zaa, getK]) (by simp [wkU, zak, zaa, getK, D.under, hi, hne, del, htE, zab, zac, zaa, getK]) (by simp [wkE, zak, zaa, getK, hi, hne, del, htE, zab, zac, zaa, getK])), by simp [hn], ?_⟩; try simp); exact PPost.zaA hR.symm)); rw [h7, PR.zaV] at hR; (try simp [hi, hne, del, htE]))
 obtain ⟨_, g7⟩ := zdD hl h7 g6
 repeat' (first
  | ((first | refine zaf ?_ | refine zaj ?_ | refine zag ?_ | fail); simp [hne, del])
  | fail)
 (refine CallP.pp (zmt l q7 3 _ (by first | omega | simp <;> omega | fail) g7 hl) (by first | (simp [hi, hne, del, htE, zaa, getK, zab, zac]; done) | fail) (by rfl) (by first | assumption | (simp; done) | fail) (by rfl) (by simp) (fun order q8 h8 => ?_) (fun pos e q' h8 => ⟨_, Wk.refl _, ?_⟩); rotate_left 1; (focus (rw [h8, PR.zaM] at hR; (refine hpan _ _ ⟨{ n := _, env := [], obs := [(3, pOb l q')], next := 4 }, (Wk.cut rfl (by simp [hn]) (by simp [wkO, zaa, getK, zab, zac, Ob.under, D.under, zad, zah, hi, hne, del, htE, zab, zac, zaa, getK]) (by simp [wkU, zak, zaa, getK, D.under, hi, hne, del, htE, zab, zac, zaa, getK]) (by simp [wkE, zak, zaa, getK, hi, hne, del, htE, zab, zac, zaa, getK])), by simp [hn], ?_⟩; try simp); exact PPost.zaA hR.symm)); rw [h8, PR.zaV] at hR; (try simp [hi, hne, del, htE]))
 obtain ⟨_, g8⟩ := zmu hl h8 g7
 repeat' (first
  | ((first | refine zaf ?_ | refine zaj ?_ | refine zag ?_ | fail); simp [hne, del])
  | (refine zau (by first | rfl | fail) ?_; simp [hne, del, frzN, frz1, zaC, zaB, St.frz, St.frzS, frzS, fv, zaJ, za6, zba, zaG, zav, zan, del, frz, zbb])
  | fail)
 (refine CallP.pp (zdC l q8 [98, 97, 99, 107, 115] 0 60 [[59]] 3 _ (by first | omega | simp <;> omega | fail) g8 hl (by simp)) (by first | (simp [hi, hne, del, htE, zaa, getK, zab, zac]; done) | fail) (by rfl) (by first | assumption | (simp; done) | fail) (by rfl) (by simp) (fun backs q9 h9 => ?_) (fun pos e q' h9 => ⟨_, Wk.refl _, ?_⟩); rotate_left 1; (focus (rw [h9, PR.zaM] at hR; (refine hpan _ _ ⟨{ n := _, env := [], obs := [(3, pOb l q')], next := 4 }, (Wk.cut rfl (by simp [hn]) (by simp [wkO, zaa, getK, zab, zac, Ob.under, D.under, zad, zah, hi, hne, del, htE, zab, zac, zaa, getK]) (by simp [wkU, zak, zaa, getK, D.under, hi, hne, del, htE, zab, zac, zaa, getK]) (by simp [wkE, zak, zaa, getK, hi, hne, del, htE, zab, zac, zaa, getK])), by simp [hn], ?_⟩; try simp); exact PPost.zaA hR.symm)); rw [h9, PR.zaV] at hR; (try simp [hi, hne, del, htE]))
 obtain ⟨_, g9⟩ := zdD hl h9 g8
 repeat' (first
  | ((first | refine zaf ?_ | refine zaj ?_ | refine zag ?_ | fail); simp [hne, del])
  | (refine zau (by first | rfl | fail) ?_; simp [hne, del, frzN, frz1, zaC, zaB, St.frz, St.frzS, frzS, fv, zaJ, za6, zba, zaG, zav, zan, del, frz, zbb])
  | fail)
 (refine CallP.pp (zdC l q9 [118, 111, 105, 99, 101, 115] 0 1000 [[112, 101, 114], [109, 105, 108, 108, 101], [59]] 3 _ (by first | omega | simp <;> omega | fail) g9 hl (by simp)) (by first | (simp [hi, hne, del, htE, zaa, getK, zab, zac]; done) | fail) (by rfl) (by first | assumption | (simp; done) | fail) (by rfl) (by simp) (fun voices q10 h10 => ?_) (fun pos e q' h10 => ⟨_, Wk.refl _, ?_⟩); rotate_left 1; (focus (rw [h10, PR.zaM] at hR; (refine hpan _ _ ⟨{ n := _, env := [], obs := [(3, pOb l q')], next := 4 }, (Wk.cut rfl (by simp [hn]) (by simp [wkO, zaa, getK, zab, zac, Ob.under, D.under, zad, zah, hi, hne, del, htE, zab, zac, zaa, getK]) (by simp [wkU, zak, zaa, getK, D.under, hi, hne, del, htE, zab, zac, zaa, getK]) (by simp [wkE, zak, zaa, getK, hi, hne, del, htE, zab, zac, zaa, getK])), by simp [hn], ?_⟩; try simp); exact PPost.zaA hR.symm)); rw [h10, PR.zaV] at hR; (try simp [hi, hne, del, htE]))
 obtain ⟨_, g10⟩ := zdD hl h10 g9
 repeat' (first
  | ((first | refine zaf ?_ | refine zaj ?_ | refine zag ?_ | fail); simp [hne, del])
  | (refine zau (by first | rfl | fail) ?_; simp [hne, del, frzN, frz1, zaC, zaB, St.frz, St.frzS, frzS, fv, zaJ, za6, zba, zaG, zav, zan, del, frz, zbb])
  | fail)
 (refine CallP.pp (zdC l q10 [106, 117, 114, 121] 0 60 [[59]] 3 _ (by first | omega | simp <;> omega | fail) g10 hl (by simp)) (by first | (simp [hi, hne, del, htE, zaa, getK, zab, zac]; done) | fail) (by rfl) (by first | assumption | (simp; done) | fail) (by rfl) (by simp) (fun jury q11 h11 => ?_) (fun pos e q' h11 => ⟨_, Wk.refl _, ?_⟩); rotate_left 1; (focus (rw [h11, PR.zaM] at hR; (refine hpan _ _ ⟨{ n := _, env := [], obs := [(3, pOb l q')], next := 4 }, (Wk.cut rfl (by simp [hn]) (by simp [wkO, zaa, getK, zab, zac, Ob.under, D.under, zad, zah, hi, hne, del, htE, zab, zac, zaa, getK]) (by simp [wkU, zak, zaa, getK, D.under, hi, hne, del, htE, zab, zac, zaa, getK]) (by simp [wkE, zak, zaa, getK, hi, hne, del, htE, zab, zac, zaa, getK])), by simp [hn], ?_⟩; try simp); exact PPost.zaA hR.symm)); rw [h11, PR.zaV] at hR; (try simp [hi, hne, del, htE]))
 obtain ⟨_, g11⟩ := zdD hl h11 g10
 repeat' (first
  | ((first | refine zaf ?_ | refine zaj ?_ | refine zag ?_ | fail); simp [hne, del])
  | (refine zau (by first | rfl | fail) ?_; simp [hne, del, frzN, frz1, zaC, zaB, St.frz, St.frzS, frzS, fv, zaJ, za6, zba, zaG, zav, zan, del, frz, zbb])
  | fail)
 (refine CallP.pp (zdC l q11 [102, 117, 110, 100] 0 1000 [[112, 101, 114], [109, 105, 108, 108, 101], [59]] 3 _ (by first | omega | simp <;> omega | fail) g11 hl (by simp)) (by first | (simp [hi, hne, del, htE, zaa, getK, zab, zac]; done) | fail) (by rfl) (by first | assumption | (simp; done) | fail) (by rfl) (by simp) (fun fund q12 h12 => ?_) (fun pos e q' h12 => ⟨_, Wk.refl _, ?_⟩); rotate_left 1; (focus (rw [h12, PR.zaM] at hR; (refine hpan _ _ ⟨{ n := _, env := [], obs := [(3, pOb l q')], next := 4 }, (Wk.cut rfl (by simp [hn]) (by simp [wkO, zaa, getK, zab, zac, Ob.under, D.under, zad, zah, hi, hne, del, htE, zab, zac, zaa, getK]) (by simp [wkU, zak, zaa, getK, D.under, hi, hne, del, htE, zab, zac, zaa, getK]) (by simp [wkE, zak, zaa, getK, hi, hne, del, htE, zab, zac, zaa, getK])), by simp [hn], ?_⟩; try simp); exact PPost.zaA hR.symm)); rw [h12, PR.zaV] at hR; (try simp [hi, hne, del, htE]))
 obtain ⟨_, g12⟩ := zdD hl h12 g11
 repeat' (first
  | ((first | refine zaf ?_ | refine zaj ?_ | refine zag ?_ | fail); simp [hne, del])
  | fail)
 refine zcO _ (Wk.ownC 5 _ 11 45 6 (by decide) rfl rfl) ?_;simp [St.ownC];refine zdL (α := { x : Nat × List Let × Nat // x.1 < l.length /\ x.2.1.length + x.2.2 = 21 /\ x.2.1.length <= 20 /\ zgI l 21 q12 [] = zgI l x.2.2 x.1 x.2.1 }) [0, 2, 3] (fun x => [])
  (fun x => [(5, .box [.u (.int .i64 kb.1), .u (.int .i64 period), .u (.int .i64 grace), .u (.int .i64 wait), .u (.int .i64 last), .u (.int .i64 order), .u (.bool kb.2), .u (.int .i64 backs), .u (.int .i64 voices), .u (.int .i64 jury), .u (.int .i64 fund), .vec 14 x.1.2.1.length, .u (.int .i64 0), .u (.int .i64 0), .u (.int .i64 0), .u (.str []), .u .nil, .u (.int .i64 0), .u (.int .i64 0), .u (.int .i64 0), .u (.str []), .u .nil, .u (.int .i64 0), .u (.int .i64 0), .u (.int .i64 0), .u (.str []), .u .nil, .u (.int .i64 0), .u (.int .i64 0), .u (.int .i64 0), .u (.str []), .u .nil, .u (.int .i64 0), .u (.int .i64 0), .u (.int .i64 0), .u (.str []), .u .nil]), (14, .vec 45 6 (rowsD (zf0 x.1.2.1))), (4, .box [.u (.int .i64 0), .u (.int .i64 0), .u (.int .i64 0), .u (.int .i64 0), .u (.int .i64 0), .u (.int .i64 0), .u (.bool false), .u (.int .i64 0), .u (.int .i64 0), .u (.int .i64 0), .u (.int .i64 0), .u .nil, .u (.int .i64 0), .u (.int .i64 0), .u (.int .i64 0), .u (.str []), .u .nil, .u (.int .i64 0), .u (.int .i64 0), .u (.int .i64 0), .u (.str []), .u .nil, .u (.int .i64 0), .u (.int .i64 0), .u (.int .i64 0), .u (.str []), .u .nil, .u (.int .i64 0), .u (.int .i64 0), .u (.int .i64 0), .u (.str []), .u .nil, .u (.int .i64 0), .u (.int .i64 0), .u (.int .i64 0), .u (.str []), .u .nil]), (3, pOb l x.1.1)]) 15 (fun x => x.1.2.2) ⟨(q12, [], 21), g12, rfl, by simp, rfl⟩ ?_ ?_
 ·exact (Wk.cut rfl (by simp [hn, St.lp]) (by simp [wkO, St.lp, zaa, getK, Ob.under, D.under, zad, zah, zf0]) (by simp [wkU, St.lp, zak, zaa, getK, D.under, zf0]) (by simp [wkE, St.lp, zak, zaa, getK, zf0] <;> (try (intros; simp_all; done)) <;> (try (intros; omega)) <;> (try grind)))
 rintro ⟨⟨q, acc, g⟩, gq, hg, hg2, hS⟩;simp only at gq hg hg2 hS;simp [St.lp, St.only, zak, zaa, getK];have hm := zec l q [108, 101, 116] gq hl.len;have hAl := zmQ acc;have hsn := zlz acc;generalize hA : zf0 acc = A at *;have htk : A.take acc.length = A := List.take_of_length_le (by omega);obtain ⟨g, rfl⟩ : ∃ g', g = g' + 1 := ⟨g - 1, by omega⟩;by_cases hb : isB l q [108, 101, 116] = true
 ·have g1q := zbc hl hb;obtain ⟨t, ht⟩ : ∃ t, l[q + 1]? = some t := ⟨_, List.getElem?_eq_getElem g1q⟩;have hnx := zb1 l (q + 1) t ht hl.len;rw [zly ht, if_pos hb] at hS;rw [hS, PR.zdV] at hR;rw [hb] at hm
  repeat' (first
  | ((first | refine zaf ?_ | refine zaj ?_ | refine zag ?_ | refine zai ?_ | refine zas ?_ | fail); simp [hne, del, hAl])
  | (refine zar ?_; simp only [zao])
  | (refine CallP.fE (hm) (by first | rfl | fail) (by first | simp [hne, del, hAl] <;> rfl | fail) ?_; (try simp [hne, del, hAl]))
  | fail)
  (refine CallP.pp (zgT l q (decide ((acc.length : Int) < 20)) 6 3 _ (by first | omega | simp <;> omega | fail) gq hl) (by first | (simp [hi, hne, del, zaa, getK, zab, zac]; done) | fail) (by rfl) (by first | assumption | (simp; done) | fail) (by rfl) (by simp) (fun u20 q20 h20 => ?_) (fun pos e q' h20 => ⟨_, Wk.refl _, ?_⟩); rotate_left 1; (focus (rw [h20, PR.zaM] at hR; (refine hpan _ _ ⟨{ n := _, env := [], obs := [(3, pOb l q')], next := 4 }, (Wk.cut rfl (by simp [hn]) (by simp [wkO, zaa, getK, zab, zac, Ob.under, D.under, zad, zah, hi, hne, del, zab, zac, zaa, getK]) (by simp [wkU, zak, zaa, getK, D.under, hi, hne, del, zab, zac, zaa, getK]) (by simp [wkE, zak, zaa, getK, hi, hne, del, zab, zac, zaa, getK])), by simp [hn], ?_⟩; try simp); exact PPost.zaA hR.symm)); rw [h20, PR.zaV] at hR; (try simp [hi, hne, del]))
  obtain ⟨rfl, hlt⟩ := znh h20;rw [h20, PR.zaV] at hS;rw [PR.zdV] at hR;by_cases hw : t.kind = 1
  case neg =>
   have hc2 := fun e nx' (h : 15 <= nx') => zcM l (q20 + 1) t e 3 nx' (by omega) ht hl.len;have e3 : zl2 l (q20 + 1) (decide (t.kind = 1) && zcs t.text) 12 = .stop t.pos 12 := by
    unfold zl2 zc0; rw [ht]; simp [hw]
   rw [e3, PR.zaM] at hR
   repeat' (first
  | ((first | refine zaf ?_ | refine zaj ?_ | fail); simp [hne, del, hw])
  | (refine ⟨by omega, ?_⟩)
  | (refine zag ?_; simp [hne, del, hw])
  | (refine CallP.fE (hnx) (by first | rfl | fail) (by first | simp [hne, del, hw] <;> rfl | fail) ?_; (try simp [hne, del, hw]))
  | (refine CallP.zeg (hc2 _ _ (by first | omega | simp <;> omega | fail)) (by first | (simp [hne, del, hw, zaa, getK, zab, zac]; done) | fail) (by rfl) (by first | assumption | (simp; done) | fail) (by rfl) (by simp) ?_; rintro ob' ⟨q', rfl⟩; refine ⟨_, Wk.refl _, ?_⟩)
  | fail)
   (refine hpan _ _ ⟨{ n := _, env := [], obs := [(3, pOb l q')], next := 4 }, (Wk.cut rfl (by simp [hn]) (by simp [wkO, zaa, getK, zab, zac, Ob.under, D.under, zad, zah, hi, hne, zab, zac, zaa, getK]) (by simp [wkU, zak, zaa, getK, D.under, hi, hne, zab, zac, zaa, getK]) (by simp [wkE, zak, zaa, getK, hi, hne, zab, zac, zaa, getK])), by simp [hn], ?_⟩; try simp)
   exact PPost.zaA hR.symm
  have hnm := zeD t.text;have e3 : (decide (t.kind = 1) && zcs t.text) = zcs t.text := by simp [hw]
  rw [e3] at hR hS;generalize zcs t.text = nb at hnm hR hS
  repeat' (first
  | ((first | refine zaf ?_ | refine zaj ?_ | fail); simp [hne, del, hw])
  | (refine ⟨by omega, ?_⟩)
  | (refine zag ?_; simp [hne, del, hw])
  | (refine CallP.fE (hnx) (by first | rfl | fail) (by first | simp [hne, del, hw] <;> rfl | fail) ?_; (try simp [hne, del, hw]))
  | (refine CallP.fE (hnm) (by first | rfl | fail) (by first | simp [hne, del, hw] <;> rfl | fail) ?_; (try simp [hne, del, hw]))
  | fail)
  (refine CallP.pp (zgT l (q20 + 1) nb 12 3 _ (by first | omega | simp <;> omega | fail) g1q hl) (by first | (simp [hi, hne, del, zaa, getK, zab, zac]; done) | fail) (by rfl) (by first | assumption | (simp; done) | fail) (by rfl) (by simp) (fun u21 q21 h21 => ?_) (fun pos e q' h21 => ⟨_, Wk.refl _, ?_⟩); rotate_left 1; (focus (rw [h21, PR.zaM] at hR; (refine hpan _ _ ⟨{ n := _, env := [], obs := [(3, pOb l q')], next := 4 }, (Wk.cut rfl (by simp [hn]) (by simp [wkO, zaa, getK, zab, zac, Ob.under, D.under, zad, zah, hi, hne, del, zab, zac, zaa, getK]) (by simp [wkU, zak, zaa, getK, D.under, hi, hne, del, zab, zac, zaa, getK]) (by simp [wkE, zak, zaa, getK, hi, hne, del, zab, zac, zaa, getK])), by simp [hn], ?_⟩; try simp); exact PPost.zaA hR.symm)); rw [h21, PR.zaV] at hR; (try simp [hi, hne, del]))
  obtain ⟨rfl, hnb⟩ := znh h21;rw [h21, PR.zaV] at hS;rw [PR.zdV] at hR;have htw := zmb acc t.text;have htw : Fun Tryz.prog 67 [.u (.sl (zf0 acc)), .fnc (.func 82) [.u (.row [.str t.text] 0)]] (· = .u (.bool (acc.any fun x => decide (x.name = t.text)))) := htw;rw [hA] at htw;generalize (acc.any fun x => decide (x.name = t.text)) = tb at htw hR hS
  repeat' (first
  | ((first | refine zaf ?_ | refine zaj ?_ | refine zag ?_ | fail); simp [hne, del, hw, htk, hAl])
  | (refine CallP.fE (htw) (by first | rfl | fail) (by first | simp [hne, del, hw, htk, hAl] <;> rfl | fail) ?_; (try simp [hne, del, hw, htk, hAl]))
  | fail)
  (refine CallP.pp (zgT l (q20 + 1) (!tb) 5 3 _ (by first | omega | simp <;> omega | fail) g1q hl) (by first | (simp [hi, hne, del, zaa, getK, zab, zac]; done) | fail) (by rfl) (by first | assumption | (simp; done) | fail) (by rfl) (by simp) (fun u22 q22 h22 => ?_) (fun pos e q' h22 => ⟨_, Wk.refl _, ?_⟩); rotate_left 1; (focus (rw [h22, PR.zaM] at hR; (refine hpan _ _ ⟨{ n := _, env := [], obs := [(3, pOb l q')], next := 4 }, (Wk.cut rfl (by simp [hn]) (by simp [wkO, zaa, getK, zab, zac, Ob.under, D.under, zad, zah, hi, hne, del, zab, zac, zaa, getK]) (by simp [wkU, zak, zaa, getK, D.under, hi, hne, del, zab, zac, zaa, getK]) (by simp [wkE, zak, zaa, getK, hi, hne, del, zab, zac, zaa, getK])), by simp [hn], ?_⟩; try simp); exact PPost.zaA hR.symm)); rw [h22, PR.zaV] at hR; (try simp [hi, hne, del]))
  obtain ⟨rfl, htb⟩ := znh h22;rw [h22, PR.zaV] at hS;rw [PR.zdV] at hR;have g2q := hl.fin (q20 + 1) t ht (by omega)
  repeat' (first
  | ((first | refine zaf ?_ | refine zaj ?_ | fail); simp [hne, del])
  | (refine ⟨by omega, ?_⟩)
  | (refine zag ?_; simp [hne, del])
  | (refine zau (by first | rfl | fail) ?_; simp [hne, del, frzN, frz1, zaC, zaB, St.frz, St.frzS, frzS, fv, zaJ, za6, zba, zaG, zav, zan, del, frz, zbb])
  | fail)
  (refine CallP.pp (zeS hl [61] (q := q20 + 1 + 1) (i := 3) (by first | omega | simp <;> omega | fail) g2q) (by first | (simp [hi, hne, del, zaa, getK, zab, zac]; done) | fail) (by rfl) (by first | assumption | (simp; done) | fail) (by rfl) (by simp) (fun u23 q23 h23 => ?_) (fun pos e q' h23 => ⟨_, Wk.refl _, ?_⟩); rotate_left 1; (focus (rw [h23, PR.zaM] at hR; (refine hpan _ _ ⟨{ n := _, env := [], obs := [(3, pOb l q')], next := 4 }, (Wk.cut rfl (by simp [hn]) (by simp [wkO, zaa, getK, zab, zac, Ob.under, D.under, zad, zah, hi, hne, del, zab, zac, zaa, getK]) (by simp [wkU, zak, zaa, getK, D.under, hi, hne, del, zab, zac, zaa, getK]) (by simp [wkE, zak, zaa, getK, hi, hne, del, zab, zac, zaa, getK])), by simp [hn], ?_⟩; try simp); exact PPost.zaA hR.symm)); rw [h23, PR.zaV] at hR; (try simp [hi, hne, del]))
  obtain ⟨_, g23⟩ := za1 hl _ h23 g2q;rw [h23, PR.zaV] at hS;rw [PR.zdV] at hR;have hwh := fun nx' (h : 15 <= nx') => zgk l q23 3 nx' (by omega) g23 hl hl2;cases hr : zeb l q23 with
  | stop pos e =>
   rw [hr, PR.zaM] at hR;simp only [hr] at hwh
   repeat' (first
  | (refine zfq (fun nx' h' => hwh nx' (by simp at h'; omega)) (by first | (simp [hne, del, htk, hAl, zaa, getK, zab, zac, zam, zaL]; done) | fail) (by rfl) (by first | assumption | simp) (by rfl) (by simp) ?_ ?_; rintro env' ob' n' hn' ⟨q', rfl⟩; refine ⟨_, Wk.refl _, ?_⟩)
  | (refine zeA rfl (by simp) ?_; simp)
  | ((first | refine zaR rfl ?_ | refine zaj ?_ | fail); simp [hne, del, htk, hAl])
  | (refine zfr (hC _ (by kernel_rfl)) rfl; done)
  | (refine za2 rfl (by kernel_rfl) (by first | (simp [hn]; done) | (simp [hn]; omega) | fail) fun C k hC hk => ?_; simp [hne, del, htk, hAl])
  | fail)
   (refine hpan _ _ ⟨{ n := _, env := [], obs := [(3, pOb l q')], next := 4 }, (Wk.cut rfl (by simp [hn]) (by simp [wkO, zaa, getK, zab, zac, Ob.under, D.under, zad, zah, hi, hne, zab, zac, zaa, getK]) (by simp [wkU, zak, zaa, getK, D.under, hi, hne, zab, zac, zaa, getK]) (by simp [wkE, zak, zaa, getK, hi, hne, zab, zac, zaa, getK])), by simp [hn], ?_⟩; try simp)
   exact PPost.zaA hR.symm
  | ok e r =>
   have hwh := fun nx' h => zdk (hwh nx' h) hr;obtain ⟨_, g24⟩ := zgm hl hr g23;rw [hr, PR.zaV] at hS
   repeat' (first
  | (refine zgY (fun nx' h' => hwh nx' (by simp at h'; omega)) (by first | (simp [hne, del, htk, hAl, zaa, getK, zab, zac, zam, zaL]; done) | fail) (by rfl) (by first | assumption | simp) (by rfl) (by simp [D.under, Ob.under]) (by simp) ?_; (try simp [hne, del, htk, hAl]))
  | ((first | refine zaR rfl ?_ | refine zcb rfl ?_ | refine zaj ?_ | fail); simp [hne, del, htk, hAl])
  | (refine ⟨by omega, ?_⟩)
  | (refine zaX (hC _ (by kernel_rfl)) (hk _ ?_); clear hC hk C k; simp only [zao])
  | (refine za2 rfl (by kernel_rfl) (by first | (simp [hn]; done) | (simp [hn]; omega) | fail) fun C k hC hk => ?_; simp [hne, del, htk, hAl])
  | fail)
   have hlt' : acc.length < 20 := by have := of_decide_eq_true hlt; omega
   refine LoopW.next ⟨(r, acc ++ [⟨t.text, e⟩], g), g24, (by simp; omega), (by simp; omega), hS⟩ (by simp) ?_
   exact (Wk.ren ((fun j => if j = 14 then 18 else j)) rfl (by first | (simp [hn]; done) | (intro i hi; rw [hn] at hi; constructor <;> (try simp) <;> (try (intro _)) <;> omega)) (by simp [zfZ, St.lp, zak, zaa, getK, zac, zam, D.under, D.le, D.ren, hsn, htk] <;> (try (intros; simp_all; done)) <;> (try omega)) (by simp [wkR, St.lp, zaa, getK, zac, zam, obR, leU, zbh, zaP, Ob.under, D.under, D.le, D.ren, hsn, htk] <;> (try (intros; simp_all; done)) <;> (try omega)) (by simp [hsn, htk]))
 ·rw [zmP hb] at hS;rw [hS, PR.zaV] at hR;have hb2 : isB l q [108, 101, 116] = false := by simpa using hb
  rw [hb2] at hm
  repeat' (first
  | ((first | refine zaf ?_ | refine zaj ?_ | refine zag ?_ | refine zai ?_ | fail); simp [hne, del])
  | (refine zbq ?_; simp [zao])
  | (refine CallP.fE (hm) (by first | rfl | fail) (by first | simp [hne, del] <;> rfl | fail) ?_; (try simp [hne, del]))
  | (refine zau (by first | rfl | fail) ?_; simp [hne, del, frzN, frz1, zaC, zaB, St.frz, St.frzS, frzS, fv, zaJ, za6, zba, zaG, zav, zan, del, frz, zbb])
  | fail)
  (refine CallP.pp (zeS hl [100, 117, 101] (q := q) (i := 3) (by first | omega | simp <;> omega | fail) gq) (by first | (simp [hi, hne, del, zaa, getK, zab, zac]; done) | fail) (by rfl) (by first | assumption | (simp; done) | fail) (by rfl) (by simp) (fun u30 q30 h30 => ?_) (fun pos e q' h30 => ⟨_, Wk.refl _, ?_⟩); rotate_left 1; (focus (rw [h30, PR.zaM] at hR; (refine hpan _ _ ⟨{ n := _, env := [], obs := [(3, pOb l q')], next := 4 }, (Wk.cut rfl (by simp [hn]) (by simp [wkO, zaa, getK, zab, zac, Ob.under, D.under, zad, zah, hi, hne, del, zab, zac, zaa, getK]) (by simp [wkU, zak, zaa, getK, D.under, hi, hne, del, zab, zac, zaa, getK]) (by simp [wkE, zak, zaa, getK, hi, hne, del, zab, zac, zaa, getK])), by simp [hn], ?_⟩; try simp); exact PPost.zaA hR.symm)); rw [h30, PR.zaV] at hR; (try simp [hi, hne, del]))
  obtain ⟨_, g30⟩ := za1 hl _ h30 gq
  repeat' (first
  | ((first | refine zaf ?_ | refine zaj ?_ | refine zag ?_ | fail); simp [hne, del])
  | fail)
  (refine CallP.pp (zgk l q30 3 _ (by first | omega | simp <;> omega | fail) g30 hl hl2) (by first | (simp [hi, hne, del, zee, Exp.row_eq, zaa, getK, zab, zac]; done) | fail) (by rfl) (by first | assumption | (simp; done) | fail) (by rfl) (by simp) (fun due q31 h31 => ?_) (fun pos e q' h31 => ⟨_, Wk.refl _, ?_⟩); rotate_left 1; (focus (rw [h31, PR.zaM] at hR; (refine hpan _ _ ⟨{ n := _, env := [], obs := [(3, pOb l q')], next := 4 }, (Wk.cut rfl (by simp [hn]) (by simp [wkO, zaa, getK, zab, zac, Ob.under, D.under, zad, zah, hi, hne, del, zee, Exp.row_eq, zab, zac, zaa, getK]) (by simp [wkU, zak, zaa, getK, D.under, hi, hne, del, zee, Exp.row_eq, zab, zac, zaa, getK]) (by simp [wkE, zak, zaa, getK, hi, hne, del, zee, Exp.row_eq, zab, zac, zaa, getK])), by simp [hn], ?_⟩; try simp); exact PPost.zaA hR.symm)); rw [h31, PR.zaV] at hR; (try simp [hi, hne, del, zee, Exp.row_eq]))
  obtain ⟨_, g31⟩ := zgm hl h31 g30
  repeat' (first
  | ((first | refine zaf ?_ | refine zaj ?_ | refine zag ?_ | fail); simp [hne, del])
  | fail)
  (refine CallP.pp (zeJ l q31 [102, 105, 110, 101] 3 _ (by first | omega | simp <;> omega | fail) g31 hl hl2) (by first | (simp [hi, hne, del, zee, Exp.row_eq, zaa, getK, zab, zac]; done) | fail) (by rfl) (by first | assumption | (simp; done) | fail) (by rfl) (by simp) (fun fine q32 h32 => ?_) (fun pos e q' h32 => ⟨_, Wk.refl _, ?_⟩); rotate_left 1; (focus (rw [h32, PR.zaM] at hR; (refine hpan _ _ ⟨{ n := _, env := [], obs := [(3, pOb l q')], next := 4 }, (Wk.cut rfl (by simp [hn]) (by simp [wkO, zaa, getK, zab, zac, Ob.under, D.under, zad, zah, hi, hne, del, zee, Exp.row_eq, zab, zac, zaa, getK]) (by simp [wkU, zak, zaa, getK, D.under, hi, hne, del, zee, Exp.row_eq, zab, zac, zaa, getK]) (by simp [wkE, zak, zaa, getK, hi, hne, del, zee, Exp.row_eq, zab, zac, zaa, getK])), by simp [hn], ?_⟩; try simp); exact PPost.zaA hR.symm)); rw [h32, PR.zaV] at hR; (try simp [hi, hne, del, zee, Exp.row_eq]))
  obtain ⟨_, g32⟩ := zeK hl h32 g31
  repeat' (first
  | (refine zaf ?_; simp [hne, del])
  | fail)
  (refine CallP.pp (zeJ l q32 [112, 97, 121] 3 _ (by first | omega | simp <;> omega | fail) g32 hl hl2) (by first | (simp [hi, hne, del, zee, Exp.row_eq, zaa, getK, zab, zac]; done) | fail) (by rfl) (by first | assumption | (simp; done) | fail) (by rfl) (by simp) (fun pay q33 h33 => ?_) (fun pos e q' h33 => ⟨_, Wk.refl _, ?_⟩); rotate_left 1; (focus (rw [h33, PR.zaM] at hR; (refine hpan _ _ ⟨{ n := _, env := [], obs := [(3, pOb l q')], next := 4 }, (Wk.cut rfl (by simp [hn]) (by simp [wkO, zaa, getK, zab, zac, Ob.under, D.under, zad, zah, hi, hne, del, zee, Exp.row_eq, zab, zac, zaa, getK]) (by simp [wkU, zak, zaa, getK, D.under, hi, hne, del, zee, Exp.row_eq, zab, zac, zaa, getK]) (by simp [wkE, zak, zaa, getK, hi, hne, del, zee, Exp.row_eq, zab, zac, zaa, getK])), by simp [hn], ?_⟩; try simp); exact PPost.zaA hR.symm)); rw [h33, PR.zaV] at hR; (try simp [hi, hne, del, zee, Exp.row_eq]))
  obtain ⟨_, g33⟩ := zeK hl h33 g32
  repeat' (first
  | (refine zaf ?_; simp [hne, del])
  | fail)
  (refine CallP.pp (zeJ l q33 [99, 111, 118, 101, 114] 3 _ (by first | omega | simp <;> omega | fail) g33 hl hl2) (by first | (simp [hi, hne, del, zee, Exp.row_eq, zaa, getK, zab, zac]; done) | fail) (by rfl) (by first | assumption | (simp; done) | fail) (by rfl) (by simp) (fun cover q34 h34 => ?_) (fun pos e q' h34 => ⟨_, Wk.refl _, ?_⟩); rotate_left 1; (focus (rw [h34, PR.zaM] at hR; (refine hpan _ _ ⟨{ n := _, env := [], obs := [(3, pOb l q')], next := 4 }, (Wk.cut rfl (by simp [hn]) (by simp [wkO, zaa, getK, zab, zac, Ob.under, D.under, zad, zah, hi, hne, del, zee, Exp.row_eq, zab, zac, zaa, getK]) (by simp [wkU, zak, zaa, getK, D.under, hi, hne, del, zee, Exp.row_eq, zab, zac, zaa, getK]) (by simp [wkE, zak, zaa, getK, hi, hne, del, zee, Exp.row_eq, zab, zac, zaa, getK])), by simp [hn], ?_⟩; try simp); exact PPost.zaA hR.symm)); rw [h34, PR.zaV] at hR; (try simp [hi, hne, del, zee, Exp.row_eq]))
  obtain ⟨_, g34⟩ := zeK hl h34 g33
  repeat' (first
  | (refine zaf ?_; simp [hne, del])
  | fail)
  (refine CallP.pp (zeJ l q34 [104, 111, 108, 100] 3 _ (by first | omega | simp <;> omega | fail) g34 hl hl2) (by first | (simp [hi, hne, del, zee, Exp.row_eq, zaa, getK, zab, zac]; done) | fail) (by rfl) (by first | assumption | (simp; done) | fail) (by rfl) (by simp) (fun hold q35 h35 => ?_) (fun pos e q' h35 => ⟨_, Wk.refl _, ?_⟩); rotate_left 1; (focus (rw [h35, PR.zaM] at hR; (refine hpan _ _ ⟨{ n := _, env := [], obs := [(3, pOb l q')], next := 4 }, (Wk.cut rfl (by simp [hn]) (by simp [wkO, zaa, getK, zab, zac, Ob.under, D.under, zad, zah, hi, hne, del, zee, Exp.row_eq, zab, zac, zaa, getK]) (by simp [wkU, zak, zaa, getK, D.under, hi, hne, del, zee, Exp.row_eq, zab, zac, zaa, getK]) (by simp [wkE, zak, zaa, getK, hi, hne, del, zee, Exp.row_eq, zab, zac, zaa, getK])), by simp [hn], ?_⟩; try simp); exact PPost.zaA hR.symm)); rw [h35, PR.zaV] at hR; (try simp [hi, hne, del, zee, Exp.row_eq]))
  obtain ⟨_, g35⟩ := zeK hl h35 g34;obtain ⟨t, ht⟩ : ∃ t, l[q35]? = some t := ⟨_, List.getElem?_eq_getElem g35⟩;have hnx := zb1 l q35 t ht hl.len
  repeat' (first
  | ((first | refine zaf ?_ | refine zaj ?_ | refine zag ?_ | fail); simp [hne, del])
  | (refine CallP.fE (hnx) (by first | rfl | fail) (by first | simp [hne, del] <;> rfl | fail) ?_; (try simp [hne, del]))
  | fail)
  (refine CallP.pp (zpd ht 3 _ (by first | omega | simp <;> omega | fail) hl) (by first | (simp [hi, hne, del, zaa, getK, zab, zac]; done) | fail) (by rfl) (by first | assumption | (simp; done) | fail) (by rfl) (by simp) (fun u36 q36 h36 => ?_) (fun pos e q' h36 => ⟨_, Wk.refl _, ?_⟩); rotate_left 1; (focus (rw [h36, PR.zaM] at hR; (refine hpan _ _ ⟨{ n := _, env := [], obs := [(3, pOb l q')], next := 4 }, (Wk.cut rfl (by simp [hn]) (by simp [wkO, zaa, getK, zab, zac, Ob.under, D.under, zad, zah, hi, hne, del, zab, zac, zaa, getK]) (by simp [wkU, zak, zaa, getK, D.under, hi, hne, del, zab, zac, zaa, getK]) (by simp [wkE, zak, zaa, getK, hi, hne, del, zab, zac, zaa, getK])), by simp [hn], ?_⟩; try simp); exact PPost.zaA hR.symm)); rw [h36, PR.zaV] at hR; (try simp [hi, hne, del]))
  obtain rfl := zpU h36
  repeat' (first
  | ((first | refine zaf ?_ | refine zaj ?_ | refine zag ?_ | fail); simp [hne, del])
  | (refine zap ?_; simp only [zao])
  | fail)
  (refine EndW.frzN 1 ?_; simp [frzN, frz1, zaC, zaB, St.frz, St.frzS, frzS, fv, zaJ, za6, zba, zaG, zav, zan, del, frz, zbb, hAl, htk])
  refine EndW.norm ?_;simp [St.norm, zbi, zb2, zcq, zcr, hne]
  (refine EndW.here ?_; (first | (refine EndOK.fin (.inr rfl) ?_) | (refine EndOK.fin (.inl rfl) ?_)); simp [zay, zae, Tryz.results37, hne, hi]; refine FinOK.cut [(3, pOb l q36)] (4) (by simp [zaa, getK, zab, zac, Ob.under, D.under, zad, zah, hne, hi] <;> omega) (by simp [D.under]) (by simp [hn]) ?_; try simp)
  exact PPost.zct hR.symm (by simp [zaS, <- hA, zf0]) rfl
end Go.Proofs.YthnemhfamhnfjaaGreatDoor
namespace Go.Proofs.YthnemhfamhnfjaaGreatDoor
open Go Go.VL
theorem zeq : ∀ ws : List W8, (zbw ws).length <= (ws.map fun w => w.length + 1).sum
 | [] => by simp [zbw, spW, zkg]
 | [w] => by rw [zaI]; simp
 | w :: v :: l => by rw [zaz]; have := zeq (v :: l); simp at this ⊢; omega
theorem zbs {w : W8} {n : Int} {ws : List W8} (h0 : 0 <= n) (h1 : n <= 1099511627776) (h : w.length + (ws.map fun w => w.length + 1).sum <= 80) : (zbn w n ws).length <= 100 := by
 rw [zbn];split
 ·simp
 ·have h2 := zd7 h0 h1;have h3 := zeq (w :: Lib.itoa n :: ws);rw [zbM];simp at h3 ⊢;omega
theorem zbN {w : W8} {e : Exp} (hw : w.length <= 20) (h : zax 12 e = true) : (clauseT w e).length <= 60000000 := by
 rw [clauseT];split
 ·simp
 ·have := zbf h (Nat.le_refl _) 0;rw [zji];omega
def zfC (b : By) : W8 := zbM (if b.sld = true then [[99, 105, 114, 99, 108, 101], [98, 105, 100, 100, 105, 110, 103], [115, 101, 97, 108, 101, 100]] else [[99, 105, 114, 99, 108, 101], if b.kind = 0 then [114, 111, 116, 97, 116, 105, 110, 103] else if b.kind = 1 then [98, 105, 100, 100, 105, 110, 103] else [115, 97, 118, 105, 110, 103]])
def zfV (o : Int) : W8 := if o = 0 then [] else zbM [[111, 114, 100, 101, 114], ordersW.getD o.toNat []]
def znC (l : Let) : W8 := zbM [[108, 101, 116], l.name, [61], txt l.body 0]
def zeW (L : List Let) : W8 := (L.map znC).flatten
noncomputable def textP (b : By) : W8 := zfC b ++ zbn [112, 101, 114, 105, 111, 100] b.period [[100, 97, 121, 115]] ++ zbn [108, 97, 115, 116] b.last [] ++ zbn [103, 114, 97, 99, 101] b.grace [[100, 97, 121, 115]] ++ zbn [119, 97, 105, 116] b.wait [[100, 97, 121, 115]] ++ zfV b.order ++
 zbn [98, 97, 99, 107, 115] b.backs [] ++ zbn [118, 111, 105, 99, 101, 115] b.voices [[112, 101, 114], [109, 105, 108, 108, 101]] ++ zbn [106, 117, 114, 121] b.jury [] ++ zbn [102, 117, 110, 100] b.fund [[112, 101, 114], [109, 105, 108, 108, 101]] ++ zeW b.lets ++
 clauseT [100, 117, 101] b.due ++ clauseT [102, 105, 110, 101] b.fine ++ clauseT [112, 97, 121] b.pay ++ clauseT [99, 111, 118, 101, 114] b.cover ++ clauseT [104, 111, 108, 100] b.hold
noncomputable def printB (b : By) : W8 × Int := if zcI b = true then (if 2000 < (textP b).length then ([], 6) else (textP b, 0)) else ([], 1)
theorem zgJ : ∀ (seen L : List Let), zeX seen L = true -> ∀ l ∈ L, zcs l.name = true /\ zax 12 l.body = true
 | _, [], _, l, hl => by cases hl
 | seen, x :: r, h, l, hl => by
  rw [zeX] at h;simp only [Bool.and_eq_true] at h;rcases List.mem_cons.1 hl with rfl | hl
  ·exact ⟨h.1.1.1, h.1.1.2⟩
  ·exact zgJ _ r h.2 l hl
theorem zkF {l : Let} (hn : zcs l.name = true) (h : zax 12 l.body = true) : (znC l).length <= 60000000 := by
 have h1 := zeq [[108, 101, 116], l.name, [61], txt l.body 0];have h2 := zbf h (Nat.le_refl _) 0;have h3 := zgc hn;rw [znC, zbM];simp at h1 ⊢;omega
theorem zgH : ∀ (L : List Let), (∀ l ∈ L, zcs l.name = true /\ zax 12 l.body = true) -> (zeW L).length <= L.length * 60000000
 | [], _ => by simp [zeW]
 | l :: r, h => by
  have h1 := zgH r fun x hx => h x (by simp [hx]);have h2 := zkF (h l (by simp)).1 (h l (by simp)).2;simp only [zeW, List.map_cons, List.flatten_cons, List.length_append, List.length_cons] at h1 ⊢;omega
theorem zht {L : List Let} {i : Nat} {l : Let} (h : L[i]? = some l) : zeW (L.take (i + 1)) = zeW (L.take i) ++ znC l := by
 obtain ⟨hi, rfl⟩ := lGE.1 h;rw [List.take_succ_eq_append_getElem hi, zeW, List.map_append, List.flatten_append];simp [zeW]
theorem zj6 {P : Program} {f : FuncId} {a c e : D} {obs nx post} (h : RetX P f [a, c, .u (.sl []), e] obs nx post) : RetX P f [a, c, .u .nil, e] obs nx post := by
 intro k own w vs hsat hhdr hown hrep;refine h k own w vs hsat hhdr hown ⟨hrep.1, fun j d hj => ?_⟩
 match j, hj with
 | 0, hj => exact hrep.2 0 d hj
 | 1, hj => exact hrep.2 1 d hj
 | 2, hj =>
  cases hj;have := zcZ (hrep.2 2 (.u .nil) rfl);rw [this];exact .u _ _ (.slE none 0 fun _ => rfl)
 | 3, hj => exact hrep.2 3 d hj
end Go.Proofs.YthnemhfamhnfjaaGreatDoor
namespace Go.Proofs.YthnemhfamhnfjaaGreatDoor
open Go Go.VL
theorem zfa : ∀ (d : Nat), d <= 12 -> ∀ e : Exp, zax d e = true -> zpp e
 | 0, _, e, h => by rw [zax] at h; cases h
 | d + 1, hd, e, h => fun least => by
  have ih : ∀ x ∈ e.args, zax (d + 1 - 1) x = true -> zpp x := fun x _ hx => zfa d (by omega) x hx;have h00 : ¬ zbA e.op < 0 := by
   unfold zbA;split
   ·omega
   ·split
    ·omega
    ·split
     ·rename_i o ho;have := List.mem_of_find?_eq_some ho;simp only [oprs, List.mem_cons, List.mem_nil_iff, or_false] at this;rcases this with rfl | rfl | rfl | rfl | rfl | rfl | rfl | rfl <;> decide
     ·omega
  have h0 := zhh (d + 1) hd e h 0 h00 ih;by_cases hl : zbA e.op < least
  ·exact zlg h hd (by rw [zch h00]; exact h0) hl h00
  ·have := zhh (d + 1) hd e h least hl ih
   rwa [<- zch hl] at this
end Go.Proofs.YthnemhfamhnfjaaGreatDoor
namespace Go.Proofs.YthnemhfamhnfjaaGreatDoor
open Go Go.VL
def zeP : By := ⟨0, 0, 0, 0, 0, 0, false, 0, 0, 0, 0, [], zdN, zdN, zdN, zdN, zdN⟩
def zgy (s : W8) : By × Int × Int := match zkA s with
 | .error (p, e) => (zeP, p, e)
 | .ok l => match zph l with
  | .stop pos e => (zeP, pos, e)
  | .ok b _ => (b, 0, 0)
def zp0 (r : By × Int × Int) : D := .tup [.u (.agg (zaS r.1)), .u (.int .i64 r.2.1), .u (.int .i64 r.2.2)]
abbrev zoo : Ob := .box [.u (.int .i64 0), .u (.int .i64 0), .u (.int .i64 0), .u (.int .i64 0), .u (.int .i64 0), .u (.int .i64 0), .u (.bool false), .u (.int .i64 0), .u (.int .i64 0), .u (.int .i64 0), .u (.int .i64 0), .u .nil, .u (.int .i64 0), .u (.int .i64 0), .u (.int .i64 0), .u (.str []), .u .nil, .u (.int .i64 0), .u (.int .i64 0), .u (.int .i64 0), .u (.str []), .u .nil, .u (.int .i64 0), .u (.int .i64 0), .u (.int .i64 0), .u (.str []), .u .nil, .u (.int .i64 0), .u (.int .i64 0), .u (.int .i64 0), .u (.str []), .u .nil, .u (.int .i64 0), .u (.int .i64 0), .u (.int .i64 0), .u (.str []), .u .nil]
end Go.Proofs.YthnemhfamhnfjaaGreatDoor
namespace Go.Proofs.YthnemhfamhnfjaaGreatDoor
open Go Go.VL
mutual
def zpQ : Exp -> Int
 | .mk _ _ _ _ args => zmO args + 1
def zmO : List Exp -> Int
 | [] => 0
 | e :: l => max (zpQ e) (zmO l)
end
theorem zg6 (l : List Int) (a : Int) (ha : 0 <= a) : l.foldl max a = max a (l.foldl max 0) := by
 induction l generalizing a with
 | nil => simp; omega
 | cons b l ih => simp only [List.foldl_cons]; rw [ih (max a b) (by omega), ih (max 0 b) (by omega)]; omega
mutual
theorem zkb : ∀ e : Exp, zpQ e = e.lev
 | .mk op n u s args => by rw [zpQ, Exp.zgZ, zkC]; rfl
theorem zkC : ∀ l : List Exp, zmO l = (l.map Exp.lev).foldl max 0
 | [] => by rw [zmO]; rfl
 | e :: l => by
  have := e.lev_pos;rw [zmO, zkb, zkC, List.map_cons, List.foldl_cons, zg6 (l.map Exp.lev) (max 0 e.lev) (by omega)];omega
end
def zi6 (s : List UInt8) : Exp × Int × Int := match zkA s with
 | .error (p, e) => (zdN, p, e)
 | .ok l => match zed l (4 * l.length + 3) 0 0 with
  | .stop pos e => (zdN, pos, e)
  | .ok y q => if zkH l q ≠ 0 then (zdN, zc0 l q, 12) else if 12 < zpQ y then (zdN, zc0 l q, 6) else (y, 0, 0)
theorem zmr (s : List UInt8) : zfT s = zi6 s := by
 unfold zfT zi6;simp only [zkb]
 try rfl
def ziz (l : List Tok) (p : Nat) : PR Exp := (zed l (4 * l.length + 3) p 0).bind fun e q =>
 if isB l q [59] = true then if zpQ e <= 12 then .ok e (q + 1) else .stop (zc0 l q) 6 else .stop (zc0 l q) 12
def zn1 (l : List Tok) : Nat -> Nat -> List Let -> PR (List Let)
 | 0, _, _ => .stop 0 0
 | f + 1, p, acc => if isB l p [108, 101, 116] = true then
   if acc.length < 20 then match l[p + 1]? with
    | none => .stop 0 0
    | some t => if t.kind = 1 ∧ zcs t.text = true then
          if (acc.any fun x => decide (x.name = t.text)) = true then .stop t.pos 5
          else (zbS l (p + 2) [[61]]).bind fun _ q => (ziz l q).bind fun e r => zn1 l f r (acc ++ [⟨t.text, e⟩])
     else .stop t.pos 12
   else .stop (zc0 l p) 6
  else .ok acc p
def zfG (l : List Tok) (p : Nat) (word : W8) : PR Exp := if isB l p word = true then ziz l (p + 1) else .ok nothingE p
def zqJ (l : List Tok) : PR By :=
 (zkd l 0).bind fun k p => (zj7 l p [112, 101, 114, 105, 111, 100]).bind fun _ p => (zdP l p [112, 101, 114, 105, 111, 100] 1 1000 [[100, 97, 121, 115], [59]]).bind fun period p =>
 (zj7 l p [108, 97, 115, 116]).bind fun _ p => (zdP l p [108, 97, 115, 116] 1 1000 [[59]]).bind fun last p =>
 (zdP l p [103, 114, 97, 99, 101] 0 1000 [[100, 97, 121, 115], [59]]).bind fun grace p => (zdP l p [119, 97, 105, 116] 0 1000 [[100, 97, 121, 115], [59]]).bind fun wait p =>
 (zgz l p).bind fun order p => (zdP l p [98, 97, 99, 107, 115] 0 60 [[59]]).bind fun backs p => (zdP l p [118, 111, 105, 99, 101, 115] 0 1000 [[112, 101, 114], [109, 105, 108, 108, 101], [59]]).bind fun voices p =>
 (zdP l p [106, 117, 114, 121] 0 60 [[59]]).bind fun jury p => (zdP l p [102, 117, 110, 100] 0 1000 [[112, 101, 114], [109, 105, 108, 108, 101], [59]]).bind fun fund p =>
 (zn1 l 21 p []).bind fun lets p => (zbS l p [[100, 117, 101]]).bind fun _ p => (ziz l p).bind fun due p =>
 (zfG l p [102, 105, 110, 101]).bind fun fine p => (zfG l p [112, 97, 121]).bind fun pay p => (zfG l p [99, 111, 118, 101, 114]).bind fun cover p => (zfG l p [104, 111, 108, 100]).bind fun hold p =>
 (zpe l p).bind fun _ p => .ok ⟨k.1, period, grace, wait, last, order, k.2, backs, voices, jury, fund, lets, due, fine, pay, cover, hold⟩ p
theorem zgl : zeb = ziz := by
 funext l p;unfold zeb ziz;simp only [zkb]
theorem zkD (l : List Tok) : ∀ f p acc, zgI l f p acc = zn1 l f p acc
 | 0, p, acc => rfl
 | f + 1, p, acc => by
  rw [zgI, zn1, zgl];simp only [zkD l f]
  try rfl
theorem zlU : zdJ = zfG := by
 funext l p w;unfold zdJ zfG;rw [zgl]
theorem zpg (l : List Tok) : zph l = zqJ l := by
 unfold zph zqJ;rw [zgl, zlU];simp only [zkD]
def zhl (s : W8) : By × Int × Int := match zkA s with
 | .error (p, e) => (zeP, p, e)
 | .ok l => match zqJ l with
  | .stop pos e => (zeP, pos, e)
  | .ok b _ => (b, 0, 0)
theorem zms (s : W8) : zgy s = zhl s := by
 unfold zgy zhl;simp only [zpg]
 try rfl
end Go.Proofs.YthnemhfamhnfjaaGreatDoor
namespace Go.Proofs.YthnemhfamhnfjaaGreatDoor
open Go Go.VL
def eA : Exp := .mk 3 0 0 [] [.mk 1 0 0 [112, 111, 116] [], .mk 4 0 0 [] [.mk 1 0 0 [112, 97, 105, 100] [], .mk 0 50 4 [] []]]
def eS : Exp := .mk 2 0 0 [] [.mk 0 5 3 [] [], .mk 1 0 0 [112, 111, 116] []]
def eM : Exp := .mk 4 0 0 [] [.mk 0 3 1 [] [], eS]
def bB : By := ⟨2, 7, 0, 0, 10, 0, false, 0, 0, 0, 0, [], .mk 0 100 3 [] [], nothingE, nothingE, nothingE, nothingE⟩
theorem pv1 : zi6 [112, 111, 116, 45, 112, 97, 105, 100, 42, 53, 48, 32, 112, 101, 114, 32, 109, 105, 108, 108, 101] = (eA, 0, 0) := by kernel_rfl
theorem pv2 : (zi6 [49, 32, 99, 111, 105, 110, 115, 32, 50]) = (zdN, 8, 12) := by kernel_rfl
theorem pv3 : zhl [99, 105, 114, 99, 108, 101, 32, 115, 97, 118, 105, 110, 103, 59, 112, 101, 114, 105, 111, 100, 32, 55, 32, 100, 97, 121, 115, 59, 108, 97, 115, 116, 32, 49, 48, 59, 103, 114, 97, 99, 101, 32, 48, 32, 100, 97, 121, 115, 59, 100, 117, 101, 32, 49, 48, 48, 32, 99, 111, 105, 110, 115, 59] = (bB, 0, 0) := by kernel_rfl
theorem pv4 : zhl [99, 105, 114, 99, 108, 101, 32, 115, 97, 118, 105, 110, 103, 59, 112, 101, 114, 105, 111, 100, 32, 48, 32, 100, 97, 121, 115, 59] = (zeP, 21, 3) := by kernel_rfl
theorem pv5 : zhl [99, 105, 114, 99, 108, 101, 32, 115, 101, 97, 108, 101, 100, 59] = (zeP, 7, 12) := by kernel_rfl
theorem zpG (n : Nat) (h : n < 10) : Lib.decDigits n = [UInt8.ofNat (48 + n)] := by rw [Lib.decDigits, dif_pos h]
theorem zqh (n : Nat) (h : ¬ n < 10) : Lib.decDigits n = Lib.decDigits (n / 10) ++ [UInt8.ofNat (48 + n % 10)] := by rw [Lib.decDigits, dif_neg h]
theorem it3 : Lib.itoa 3 = [51] := by rw [Lib.itoa, if_neg (by decide)]; show Lib.decDigits 3 = _; rw [zpG 3 (by decide)]; rfl
theorem it5 : Lib.itoa 5 = [53] := by rw [Lib.itoa, if_neg (by decide)]; show Lib.decDigits 5 = _; rw [zpG 5 (by decide)]; rfl
theorem it7 : Lib.itoa 7 = [55] := by rw [Lib.itoa, if_neg (by decide)]; show Lib.decDigits 7 = _; rw [zpG 7 (by decide)]; rfl
theorem zrA : Lib.itoa 10 = [49, 48] := by rw [Lib.itoa, if_neg (by decide)]; show Lib.decDigits 10 = _; rw [zqh 10 (by decide), zpG (10 / 10) (by decide)]; rfl
theorem zrz : Lib.itoa 50 = [53, 48] := by rw [Lib.itoa, if_neg (by decide)]; show Lib.decDigits 50 = _; rw [zqh 50 (by decide), zpG (50 / 10) (by decide)]; rfl
theorem zqp : Lib.itoa 100 = [49, 48, 48] := by rw [Lib.itoa, if_neg (by decide)]; show Lib.decDigits 100 = _; rw [zqh 100 (by decide), zqh (100 / 10) (by decide), zpG (100 / 10 / 10) (by decide)]; rfl
theorem zhN (s : W8) {least : Int} (h : least <= 7) : txt (.mk 1 0 0 s []) least = s := by
 rw [zch (by show ¬ (7 : Int) < least; omega), zbQ, zem, if_neg (by decide), if_pos rfl, zaI]
theorem zhM (n u : Int) {least : Int} (h : least <= 7) : txt (.mk 0 n u [] []) least = zbw (zeT n u) := by
 rw [zch (by show ¬ (7 : Int) < least; omega), zbQ, zem, if_pos rfl]
theorem tA : txt eA 0 = [112, 111, 116, 32, 45, 32, 112, 97, 105, 100, 32, 42, 32, 53, 48, 32, 112, 101, 114, 32, 109, 105, 108, 108, 101] := by
 have h1 := zd6 (d := 11) (a := .mk 1 0 0 [112, 97, 105, 100] []) (b := .mk 0 50 4 [] []) (o := ⟨[42], 4, 6⟩) (by simp [oprs]) (by kernel_rfl) (by kernel_rfl);have h2 := zd6 (d := 11) (a := .mk 1 0 0 [112, 111, 116] []) (b := .mk 4 0 0 [] [.mk 1 0 0 [112, 97, 105, 100] [], .mk 0 50 4 [] []]) (o := ⟨[45], 3, 5⟩) (by simp [oprs]) (by kernel_rfl) (by kernel_rfl);have e : txt eA 0 = zbw (zbQ eA) := zch (by show ¬ (5 : Int) < 0; decide);rw [e];refine Eq.trans h2 ?_;rw [zhN _ (by decide)];have e2 : txt (.mk 4 0 0 [] [.mk 1 0 0 [112, 97, 105, 100] [], .mk 0 50 4 [] []]) (5 + 1) = zbw (zbQ (.mk 4 0 0 [] [.mk 1 0 0 [112, 97, 105, 100] [], .mk 0 50 4 [] []])) := zch (by show ¬ (6 : Int) < 5 + 1; decide);rw [e2];have e3 : zbw (zbQ (.mk 4 0 0 [] [.mk 1 0 0 [112, 97, 105, 100] [], .mk 0 50 4 [] []])) = _ := h1;rw [e3, zhN _ (by decide), zhM _ _ (by decide), zeT, if_neg (by decide), if_neg (by decide), if_neg (by decide), if_pos (by decide), zrz];rfl
theorem tM : txt eM 0 = [51, 32, 42, 32, 40, 32, 53, 32, 99, 111, 105, 110, 115, 32, 43, 32, 112, 111, 116, 32, 41] := by
 have h1 := zd6 (d := 11) (a := .mk 0 5 3 [] []) (b := .mk 1 0 0 [112, 111, 116] []) (o := ⟨[43], 2, 5⟩) (by simp [oprs]) (by kernel_rfl) (by kernel_rfl);have h2 := zd6 (d := 11) (a := .mk 0 3 1 [] []) (b := eS) (o := ⟨[42], 4, 6⟩) (by simp [oprs]) (by kernel_rfl) (by kernel_rfl);have e : txt eM 0 = zbw (zbQ eM) := zch (by show ¬ (6 : Int) < 0; decide);rw [e];refine Eq.trans h2 ?_;have e2 : txt eS (6 + 1) = [40, 32] ++ zbw (zbQ eS) ++ [32, 41] := ze6 (d := 11) (by kernel_rfl) (by show (5 : Int) < 6 + 1; decide);have e3 : zbw (zbQ eS) = _ := h1;rw [e2, e3, zhM _ _ (by decide), zhM _ _ (by decide), zhN _ (by decide), zeT, if_neg (by decide), if_neg (by decide), if_neg (by decide), if_neg (by decide), zeT, if_neg (by decide), if_pos (by decide), it3, it5];rfl
theorem zrt : txt (.mk 0 100 3 [] []) 0 = [49, 48, 48, 32, 99, 111, 105, 110, 115] := by
 rw [zhM _ _ (by decide), zeT, if_neg (by decide), if_pos (by decide), zqp];rfl
theorem tB : textP bB = [99, 105, 114, 99, 108, 101, 32, 115, 97, 118, 105, 110, 103, 32, 59] ++ [10] ++ [112, 101, 114, 105, 111, 100, 32, 55, 32, 100, 97, 121, 115, 32, 59] ++ [10] ++ [108, 97, 115, 116, 32, 49, 48, 32, 59] ++ [10] ++ [100, 117, 101, 32, 49, 48, 48, 32, 99, 111, 105, 110, 115, 32, 59] ++ [10] := by
 have hk : zfC bB = [99, 105, 114, 99, 108, 101, 32, 115, 97, 118, 105, 110, 103, 32, 59] ++ [10] := by kernel_rfl
 have hd : clauseT [100, 117, 101] bB.due = [100, 117, 101, 32, 49, 48, 48, 32, 99, 111, 105, 110, 115, 32, 59] ++ [10] := by
  rw [clauseT, if_neg (by simp)];show zbM [_, txt (.mk 0 100 3 [] []) 0] = _;rw [zrt]; kernel_rfl
 have hn : ∀ w : W8, w ≠ [100, 117, 101] -> clauseT w nothingE = [] := fun w hw => by rw [clauseT, if_pos ⟨zbB _, hw⟩]
 have h7 : zbn [112, 101, 114, 105, 111, 100] bB.period [[100, 97, 121, 115]] = [112, 101, 114, 105, 111, 100, 32, 55, 32, 100, 97, 121, 115, 32, 59] ++ [10] := by
  rw [zbn, if_neg (by decide)]; show zbM [_, Lib.itoa 7, _] = _; rw [it7]; kernel_rfl
 have h10 : zbn [108, 97, 115, 116] bB.last [] = [108, 97, 115, 116, 32, 49, 48, 32, 59] ++ [10] := by
  rw [zbn, if_neg (by decide)]; show zbM [_, Lib.itoa 10] = _; rw [zrA]; kernel_rfl
 have h0 : ∀ w ws, zbn w 0 ws = [] := fun w ws => by rw [zbn, if_pos rfl]
 rw [textP, hk, h7, h10, hd];rw [show bB.grace = 0 from rfl, show bB.wait = 0 from rfl, show bB.order = 0 from rfl, show bB.backs = 0 from rfl, show bB.voices = 0 from rfl, show bB.jury = 0 from rfl, show bB.fund = 0 from rfl, show bB.lets = [] from rfl, show bB.fine = nothingE from rfl, show bB.pay = nothingE from rfl, show bB.cover = nothingE from rfl, show bB.hold = nothingE from rfl];rw [h0, h0, h0, h0, h0, h0, hn _ (by decide), hn _ (by decide), hn _ (by decide), hn _ (by decide), show zfV 0 = [] from rfl, show zeW [] = [] from rfl];simp
end Go.Proofs.YthnemhfamhnfjaaGreatDoor
namespace Go.Proofs.YthnemhfamhnfjaaGreatDoor
open Go Go.VL
def zex : Nat -> U -> U
 | 0, x => x
 | _ + 1, .nil => .sl []
 | n + 1, .sl rows => .sl (rows.map fun r => r.map (zex n))
 | n + 1, .agg cs => .agg (cs.map (zex n))
 | _ + 1, x => x
theorem zik {m : Mem} : ∀ (n : Nat) {x : U} {v : Value}, RepU m x v -> RepU m (zex n x) v
 | 0, x, v, h => by rw [zex]; exact h
 | n + 1, x, v, h => by
  cases h with
  | map kk ag es0 es hp b ents clock f h1 h2 h3 h4 => exact .map kk ag es0 es hp b ents clock f h1 h2 h3 h4
  | nil => rw [zex]; exact .slE none 0 fun _ => rfl
  | int k n => exact .int k n
  | bool b => exact .bool b
  | str l => exact .str l
  | oth v => cases x' : U.oth v <;> first | (cases x'; rw [zex] <;> first | exact .oth _ | (intros; contradiction)) | cases x'
  | slE a c h => rw [zex]; exact .slE a c h
  | row cells off b o f h1 h2 => exact .row cells off b o f h1 h2
  | sl rows b o sz c f h1 h2 h3 h4 h5 =>
   rw [zex];have := RepU.sl (m := m) (rows.map fun r => r.map (zex n)) b o sz c f (by simpa using h1) h2 (fun r hr => by
    obtain ⟨r0, hr0, rfl⟩ := List.mem_map.1 hr;simpa using h3 r0 hr0) (fun i hi => h4 i (by simpa using hi)) (fun i r hi j u hj => by
    rw [List.getElem?_map] at hi;cases hc : rows[i]? with
    | none => rw [hc] at hi; cases hi
    | some r0 =>
     rw [hc] at hi; cases hi;rw [List.getElem?_map] at hj;cases hd : r0[j]? with
     | none => rw [hd] at hj; cases hj
     | some u0 => rw [hd] at hj; cases hj; exact zik n (h5 i r0 hc j u0 hd))
   simpa using this
  | agg cells vs h1 h2 =>
   rw [zex];refine .agg _ vs (by simpa using h1) fun j u hj => ?_;rw [List.getElem?_map] at hj;cases hc : cells[j]? with
   | none => rw [hc] at hj; cases hj
   | some e => rw [hc] at hj; cases hj; exact zik n (h2 j e hc)
theorem Fun.zqc {P : Program} {f : FuncId} {us : List U} {post : D -> Prop} (n : Nat) (h : Fun P f (us.map fun u => .u (zex n u)) post) : Fun P f (us.map .u) post := by
 intro k own w vs hsat hhdr hown hrep;refine h k own w vs hsat hhdr hown ⟨by simpa using hrep.1, fun j d hj => ?_⟩;rw [List.getElem?_map] at hj;cases hc : us[j]? with
 | none => rw [hc] at hj; cases hj
 | some u =>
  rw [hc] at hj; cases hj;have h1 := hrep.2 j (.u u) (by rw [List.getElem?_map, hc]; rfl);generalize vs.getD j undef = v at h1;cases h1 with
  | u _ _ h1 => exact .u _ _ (zik n h1)
theorem rA : zax 12 eA = true := by kernel_rfl
theorem rM : zax 12 eM = true := by kernel_rfl
theorem rS : zax 12 eS = true := by kernel_rfl
theorem rZ : zax 12 (.mk 1 0 0 [] []) = false := by kernel_rfl
theorem rB : zcI bB = true := by kernel_rfl
theorem rz : zcI zeP = false := by kernel_rfl
theorem nP : zcs [112, 101, 114, 105, 111, 100] = true := by kernel_rfl
theorem nC : zcs [99, 111, 105, 110, 115] = false := by kernel_rfl
end Go.Proofs.YthnemhfamhnfjaaGreatDoor
