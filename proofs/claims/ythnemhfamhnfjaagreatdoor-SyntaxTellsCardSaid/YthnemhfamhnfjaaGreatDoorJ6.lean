import Derived.Test.YthnemhfamhnfjaaGreatDoorJ5
set_option linter.all false
set_option maxRecDepth 100000
set_option maxHeartbeats 8000000
namespace Go.Proofs.YthnemhfamhnfjaaGreatDoor
open Go Go.VL
attribute [local simp] HS zdS zcz evPure opd uOf zaN St.put St.at getK binD binI binS binB nilD aggD zjm zkZ lookD lookR zdv Go.VL.nextD zdz zlv zk0 zid zc5 mkV zep zbT zb7 mapEff zfk zhO Key.kk shiftI arith unD convD zfC loadD cellsAt fieldAddrD fieldD indexAddrD indexD sliceD cutD lenD minmaxD nilCheckD buildD fillD zcs zd9 zf2 setAll zdC zgj zdo zkH zde St.add za8 zct rowsOf ze5 zdq zal zac zaa zbK zd4 zbo entry zcb zck valD zcB zc6 zjf zen zeo zcw zch zaE zba zbX delAll effD St.effS zeq zbM zbs zer zbN zbu zc7 zbt zbg zc8 zeb zcu zc0 zb1 zcY zcZ zaL mkD zcp zce zcg zaE zdk D.ids Op.operands Call.operands zcq makeIfD makeFuncD typeAssertD zkY zeT zeU zkV zdx IntKind.bits zdG List.take_of_length_le List.range_succ
attribute [local irreducible] V G H HD HD2 HD4 znD RetX zap Eff CallP CallV EndOK Fun Ret FinOK LoopI LoopW EndW
abbrev zkw : Ob := .box [.u (.int .i64 0), .u (.int .i64 0), .u (.int .i64 0), .u (.str []), .u .nil]
theorem ziK (i j q nx : Nat) (hi : i < nx) (hj : j < nx) (hq : q < nx) (hij : i ≠ j) (hiq : i ≠ q) (hjq : j ≠ q) (p e pos err : Int) (a b c : Int) (t : List UInt8) (g : U) :
  RetDf Tryz.prog 40 [.ptr i 0, .ptr j 0, .ptr q 0] [(i, .box [.u (.int .i64 p)]), (j, .box [.u (.int .i64 e)]), (q, .box [.u (.int .i64 a), .u (.int .i64 b), .u (.int .i64 c), .u (.str t), .u g])] nx (.panicking (chP pos err))
   (fun u o n => settle u = .returning /\ n = nx /\ o = [(i, .box [.u (.int .i64 pos)]), (j, .box [.u (.int .i64 err)]), (q, zkw)]) := by
 have hne := zaw hi;have hne2 := zaw hj;have hne3 := zaw hq;have hc0 := zhI i j nx hi hj hij p e pos err;refine RetDf.of_body Tryz.func40 rfl (by simp) (by simp) rfl fun Γ hn => ?_;simp [entry, zld, chP, Tryz.ntmps40];refine CallP.x2 hc0 (by simp [getK]) (by simp [getK, hij, Ne.symm hij]) hij rfl rfl (by simp) (by simp) (fun d o1 nx' hnx h => ?_) (fun ch o1 nx' hnx h => by cases h.1);obtain ⟨h1, rfl, h4⟩ := h;have h4 := h4.symm;subst h4;cases h1;simp [del, hij, Ne.symm hij, hiq, hjq, Ne.symm hiq, Ne.symm hjq]
 repeat' (first
  | ((first | refine zag ?_ | refine zaj ?_ | refine zai ?_ | refine zas ?_ | fail); simp [hij, hiq, hjq])
  | fail)
 (refine ⟨by simp, { n := _, env := [], obs := [(i, .box [.u (.int .i64 pos)]), (j, .box [.u (.int .i64 err)]), (q, zkw)], next := nx }, (Wk.cut rfl (by simp [hn]) (by simp [wkO, zaa, getK, zab, zac, Ob.under, D.under, zad, zaf, hi, hj, hq, hne, hne2, hne3, hij, hiq, hjq, Ne.symm hij, Ne.symm hiq, Ne.symm hjq]) (by simp [wkU, zan, zaa, getK, D.under, hi, hj, hq, hne, hne2, hne3, hij, hiq, hjq, Ne.symm hij, Ne.symm hiq, Ne.symm hjq]) (by simp [wkE, zan, zaa, getK, hi, hj, hq, hne, hne2, hne3, hij, hiq, hjq, Ne.symm hij, Ne.symm hiq, Ne.symm hjq])), by simp [hn], ?_⟩; try simp)
 all_goals rfl
theorem zoA {s : List UInt8} : ∀ (f p : Nat) (l : List Tok), zht f s p = .ok l -> s.length < p + f -> p <= s.length ->
  (∀ (i : Nat) (t : Tok), l[i]? = some t -> t.kind ≠ 0 -> i + 1 < l.length) /\ l.length <= s.length - p + 1 /\ 0 < l.length
 | 0, p, l, _, h2, h3 => by omega
 | f + 1, p, l, h, h2, h3 => by
  rw [zht] at h;have hle := zdT zbi (s.drop p);rw [List.length_drop] at hle;split at h
  ·cases h;refine ⟨fun i t hi hk => ?_, by simp, by simp⟩;rcases i with _ | i
   ·simp at hi;subst hi;exact absurd rfl hk
   ·simp at hi
  ·rename_i c r hd;have hdl : (s.drop (p + zbQ zbi (s.drop p))).length = r.length + 1 := by rw [hd]; rfl
   rw [List.length_drop] at hdl;split at h
   ·cases h
   ·rename_i t ht;obtain ⟨ht1, ht2⟩ := zfq ht;simp only [List.length_cons] at ht2;split at h
    ·cases h
    ·rename_i l' hl';cases h;obtain ⟨g1, g2, g3⟩ := zoA f _ l' hl' (by omega) (by omega);refine ⟨fun i t' hi hk => ?_, by simp only [List.length_cons]; omega, by simp⟩;rcases i with _ | i
     ·simp; exact g3
     ·simp only [List.getElem?_cons_succ] at hi;have := g1 i t' hi hk;simp only [List.length_cons];omega
theorem ziU {s : List UInt8} {l : List Tok} (h : zhM s = .ok l) : TokOK l /\ l.length <= 2001 /\ 0 < l.length := by
 unfold zhM at h;split at h
 ·cases h
 ·obtain ⟨g1, g2, g3⟩ := zoA _ _ _ h (by omega) (by omega);exact ⟨⟨g1, by omega⟩, by omega, g3⟩
theorem Exp.zkT {op n u : Int} {s : List UInt8} {args : List Exp} {B : Int} (h : ∀ x ∈ args, x.lev <= B) (h0 : 0 <= B) : (Exp.mk op n u s args).lev <= B + 1 := by
 rw [Exp.zfj];simp only [Exp.args];have : ∀ (l : List Int) (a : Int), a <= B -> (∀ x ∈ l, x <= B) -> l.foldl max a <= B := by
  intro l
  induction l with
  | nil => intro a ha _; exact ha
  | cons b l ih => intro a ha hl; exact ih _ (by have := hl b (by simp); omega) fun x hx => hl x (by simp [hx])
 have := this (args.map Exp.lev) 0 h0 (fun x hx => by obtain ⟨y, hy, rfl⟩ := List.mem_map.1 hx; exact h y hy);omega
theorem zfZ {l : List Tok} : ∀ (f : Nat),
  (∀ p form e q, zdZ l f p form = .ok e q -> e.lev <= f * f + 1) /\
  (∀ form e own p e' q, zef l f form e own p = .ok e' q -> e'.lev <= max e.lev (f * f + 1) + f) /\
  (∀ p form e q, zbl l f p form = .ok e q -> e.1.lev <= f * f + 1) /\
  (∀ p e q, zaZ l f p = .ok e q -> e.lev <= f * f + 1)
 | 0 => ⟨fun _ _ _ _ h => by simp [zdZ] at h, fun _ _ _ _ _ _ h => by simp [zef] at h, fun _ _ _ _ h => by simp [zbl] at h, fun _ _ _ h => by simp [zaZ] at h⟩
 | f + 1 => by
  obtain ⟨he, hlo, hpr, hpm⟩ := zfZ f;have hsq : ((f + 1 : Nat) : Int) * ((f + 1 : Nat) : Int) = (f : Int) * f + 2 * f + 1 := by
   rw [show ((f + 1 : Nat) : Int) = (f : Int) + 1 by omega, Int.add_mul, Int.mul_add]; omega
  rw [hsq];have h0 : (0 : Int) <= (f : Int) * f := Int.mul_nonneg (by omega) (by omega);generalize hF : (f : Int) * f = F at *;refine ⟨fun p form e q h => ?_, fun form e own p e' q h => ?_, fun p form e q h => ?_, fun p e q h => ?_⟩
  ·rw [zdZ] at h;obtain ⟨a, r, h1, h2⟩ := PR.zaC h;have g1 := hpr _ _ _ _ h1;have g2 := hlo _ _ _ _ _ _ h2;omega
  ·rw [zef] at h;split at h
   ·cases h; omega
   ·split at h
    ·cases h; omega
    ·obtain ⟨a, r, h1, h2⟩ := PR.zaC h;have g1 := he _ _ _ _ h1;have g2 := hlo _ _ _ _ _ _ h2;rename_i x _ _;have g3 := Exp.zkT (op := x.op) (n := 0) (u := 0) (s := []) (args := [e, a]) (B := max e.lev (F + 1)) (by
      intro y hy;simp only [List.mem_cons, List.not_mem_nil, or_false] at hy;rcases hy with rfl | rfl <;> omega) (by omega)
     omega
  ·rw [zbl] at h;split at h
   ·obtain ⟨a, r, h1, h⟩ := PR.zaC h;obtain ⟨_, r2, h2, h⟩ := PR.zaC h;obtain ⟨b, r3, h3, h⟩ := PR.zaC h;obtain ⟨_, r4, h4, h⟩ := PR.zaC h;obtain ⟨c, r5, h5, h⟩ := PR.zaC h;cases h;have g1 := he _ _ _ _ h1;have g3 := he _ _ _ _ h3;have g5 := he _ _ _ _ h5;have := Exp.zkT (op := 13) (n := 0) (u := 0) (s := []) (args := [a, b, c]) (B := F + 1) (by
     intro y hy;simp only [List.mem_cons, List.not_mem_nil, or_false] at hy;rcases hy with rfl | rfl | rfl <;> omega) (by omega)
    simp only;omega
   ·split at h
    ·obtain ⟨a, r, h1, h⟩ := PR.zaC h;cases h;have g1 := he _ _ _ _ h1;have := Exp.zkT (op := 12) (n := 0) (u := 0) (s := []) (args := [a]) (B := F + 1) (by
      intro y hy;simp only [List.mem_cons, List.not_mem_nil, or_false] at hy;rcases hy with rfl; omega) (by omega)
     simp only;omega
    ·obtain ⟨a, r, h1, h⟩ := PR.zaC h;cases h;have g1 := hpm _ _ _ h1;simp only;omega
  ·have leaf : ∀ (op n u : Int) (s : List UInt8), (Exp.mk op n u s []).lev <= F + 2 * f + 1 + 1 := fun op n u s => by
    have := Exp.zkT (op := op) (n := n) (u := u) (s := s) (args := []) (B := 0) (by simp) (by omega);omega
   rw [zaZ] at h;split at h
   ·cases h
   ·split at h
    ·obtain ⟨a, r, h1, h⟩ := PR.zaC h;cases h; exact leaf ..
    split at h
    ·cases h; exact leaf ..
    split at h
    ·cases h; exact leaf ..
    split at h
    ·obtain ⟨_, r2, h2, h⟩ := PR.zaC h;obtain ⟨a, r3, h3, h⟩ := PR.zaC h;obtain ⟨_, r4, h4, h⟩ := PR.zaC h;obtain ⟨b, r5, h5, h⟩ := PR.zaC h;obtain ⟨_, r6, h6, h⟩ := PR.zaC h;have g3 := he _ _ _ _ h3;have g5 := he _ _ _ _ h5;have := Exp.zkT (op := if isB l p [109, 97, 120] = true then 7 else 6) (n := 0) (u := 0) (s := []) (args := [a, b]) (B := F + 1) (by
      intro y hy;simp only [List.mem_cons, List.not_mem_nil, or_false] at hy;rcases hy with rfl | rfl <;> omega) (by omega)
     cases h;omega
    split at h
    ·obtain ⟨a, r3, h3, h⟩ := PR.zaC h;obtain ⟨_, r4, h4, h⟩ := PR.zaC h;cases h;have g3 := he _ _ _ _ h3;omega
    split at h
    ·cases h; exact leaf ..
    ·cases h
def zhv (l : List Tok) (p : Nat) : Int := match l[p]? with | some t => t.kind | none => 0
def zcK : Exp := .mk 0 0 0 [] []
def zcN (s : List UInt8) : Exp × Int × Int := match zhM s with
 | .error (p, e) => (zcK, p, e)
 | .ok l => match zdZ l (4 * l.length + 3) 0 0 with
  | .stop pos e => (zcK, pos, e)
  | .ok y q => if zhv l q ≠ 0 then (zcK, zbL l q, 12) else if 12 < y.lev then (zcK, zbL l q, 6) else (y, 0, 0)
theorem zor {c : UInt8} {r : List UInt8} {e : Int} (h : zd8 (c :: r) = .error e) : e ≠ 0 := by
 unfold zd8 at h;simp only at h;split at h
 ·split at h <;> cases h;omega
 ·split at h
  ·split at h <;> cases h;omega
  ·split at h <;> cases h;omega
theorem zlY {s : List UInt8} : ∀ (f p : Nat) (q : Nat) (e : Int), zht f s p = .error (q, e) -> p <= s.length -> e ≠ 0 /\ q <= s.length
 | 0, p, q, e, h, _ => by simp [zht] at h
 | f + 1, p, q, e, h, h3 => by
  rw [zht] at h;have hle := zdT zbi (s.drop p);rw [List.length_drop] at hle;split at h
  ·cases h
  ·rename_i c r hd;have hdl : (s.drop (p + zbQ zbi (s.drop p))).length = r.length + 1 := by rw [hd]; rfl
   rw [List.length_drop] at hdl;split at h
   ·rename_i ht;cases h;exact ⟨zor ht, by omega⟩
   ·rename_i t ht;obtain ⟨ht1, ht2⟩ := zfq ht;simp only [List.length_cons] at ht2;split at h
    ·rename_i x hx;cases h;exact zlY f _ q e hx (by omega)
    ·cases h
theorem zg5 {s : List UInt8} {q : Nat} {e : Int} (h : zhM s = .error (q, e)) : e ≠ 0 /\ q <= s.length := by
 unfold zhM at h;split at h
 ·cases h; exact ⟨by decide, by omega⟩
 ·exact zlY _ _ _ _ h (by omega)
def zlI (r : Exp × Int × Int) : D := .tup [.u (.agg r.1.row), .u (.int .i64 r.2.1), .u (.int .i64 r.2.2)]
theorem zj1 (s : List UInt8) : RetX Tryz.prog 12 [.u (.str s)] [] 0 (fun r o n => r = .val (zlI (zcN s))) := by
 unfold zcN;cases hlx : zhM s with
 | error pe =>
  obtain ⟨p, e⟩ := pe;have ho := fun nx => zlT s p e nx hlx;have he := (zg5 hlx).1;simp only
  (refine RetX.zdH Tryz.func12 rfl (by simp) fun Γ hn hdfr hpan hesc => ?_); simp only [entry, ziC, ziN, maC, maN, oA, Tryz.ntmps12]
  repeat' (first
  | ((first | refine zag ?_ | refine zaS rfl ?_ | refine zbJ rfl ?_ | refine zaj ?_ | refine zah ?_ | refine zai ?_ | fail); simp [he])
  | (refine za0 (hC _ (by kernel_rfl)) (hk _ ?_); clear hC hk C k; simp only [zap])
  | (refine za3 rfl (by kernel_rfl) (by first | (simp [hn]; done) | (simp [hn]; omega) | fail) fun C k hC hk => ?_; simp [he])
  | (refine zaq ?_; simp only [zap])
  | (refine CallP.okL (ho _) (by first | (simp [he, zaa, getK, zab, zac, zal, zaL, del]; done) | fail) (by rfl) (by rfl) ?_; (try simp [he, zcV, del]))
  | fail)
  refine EndW.norm ?_;simp [St.norm, zaD, zaT, zaV, zaW]
  (refine EndW.here ?_; (first | (refine EndOK.fin (.inr rfl) ?_) | (refine EndOK.fin (.inl rfl) ?_)); simp [zaA, zae, Tryz.results12]; refine FinOK.here (by simp) ?_; try simp)
  simp [zlI, Exp.row, zcK]
 | ok l =>
  obtain ⟨hl, hl2, hl0⟩ := ziU hlx;have ho := fun nx => zol s l nx hlx;have hE := (zjZ hl (4 * l.length + 3)).1 0 0 3 4 (by omega) hl0 (by omega) (by omega) (by omega);simp only;cases hr : zdZ l (4 * l.length + 3) 0 0 with
  | stop pos e =>
   simp only [hr] at hE ⊢
   (refine RetX.zdH Tryz.func12 rfl (by simp) fun Γ hn hdfr hpan hesc => ?_); simp only [entry, ziC, ziN, maC, maN, oA, Tryz.ntmps12]
   rw [zdJ]
   repeat' (first
  | ((first | refine zag ?_ | refine zaj ?_ | refine zah ?_ | refine zai ?_ | fail); simp)
  | (refine zao ?_; simp only [zap])
  | (refine CallP.okL (ho _) (by first | (simp [zaa, getK, zab, zac, zal, zaL, del]; done) | fail) (by rfl) (by rfl) ?_; (try simp [zcV, del]))
  | fail)
   refine zgJ hesc hdfr rfl (by simp) ?_;have hn0 := hn;have hpan0 := hpan;intro Γ' hn hpan;simp
   repeat' (first
  | ((first | refine zag ?_ | refine zah ?_ | fail); simp)
  | (refine CallP.zeW (hE) (by first | (simp [zaa, getK, zab, zac]; done) | fail) (by rfl) (by first | assumption | (simp; done) | fail) (by rfl) (by simp) ?_; rintro ob' ⟨q', rfl⟩; refine ⟨_, Wk.refl _, ?_⟩)
  | fail)
   refine hpan _ _ ?_;refine LeaveD.of [(1, .box [.u (.int .i64 0)]), (2, .box [.u (.int .i64 0)]), (0, zkw)] (by simp [zaa, getK, zab, zac]) (ziK 1 2 0 _ (by simp) (by simp) (by simp) (by decide) (by decide) (by decide) 0 0 _ _ 0 0 0 [] .nil) ?_;simp only [show Γ.base.n0 = 0 from hn0];simp [zcV, del];refine EndW.norm ?_;simp [St.norm, zaD, zaT, zaV, zaW]
   (refine EndW.here ?_; (first | (refine EndOK.fin (.inr rfl) ?_) | (refine EndOK.fin (.inl rfl) ?_)); simp [zaA, zae, Tryz.results12]; refine FinOK.here (by simp) ?_; try simp)
   simp [zlI, Exp.row, zcK]
  | ok y q =>
   have hEx := zdy hE hr;obtain ⟨g0a, g0b⟩ := (zbF hl _).1 _ _ _ _ hr hl0;have hlev := (zfZ (l := l) _).1 _ _ _ _ hr;have hlev2 : y.lev <= 1000000000 := by
    have h1 : ((4 * l.length + 3 : Nat) : Int) * ((4 * l.length + 3 : Nat) : Int) <= 8007 * 8007 := Int.mul_le_mul (by omega) (by omega) (by omega) (by omega);omega
   have hlv := zib (SizeOf.sizeOf y) y (Nat.le_refl _) hlev2;rw [Exp.row_eq] at hlv;obtain ⟨t, ht⟩ : ∃ t, l[q]? = some t := ⟨_, List.getElem?_eq_getElem g0b⟩;have hnx := zb9 l q t ht hl.len;have hka : zhv l q = t.kind := by unfold zhv; rw [ht]
   have hpa : zbL l q = t.pos := by unfold zbL; rw [ht]
   simp only [hka, hpa];by_cases hk : t.kind = 0
   ·have hc1 := fun nx (h : 3 < nx) => zd0 l q 12 3 nx h;rw [if_neg (by simp [hk])];by_cases hv : 12 < y.lev
    ·have hc2 := fun nx (h : 3 < nx) => zcS l q t 6 3 nx h ht hl.len;have hv2 : ¬ y.lev <= 12 := by omega
     rw [if_pos hv]
     (refine RetX.zdH Tryz.func12 rfl (by simp) fun Γ hn hdfr hpan hesc => ?_); simp only [entry, ziC, ziN, maC, maN, oA, Tryz.ntmps12]
     rw [zdJ]
     repeat' (first
  | ((first | refine zag ?_ | refine zaj ?_ | refine zah ?_ | refine zai ?_ | fail); simp)
  | (refine zao ?_; simp only [zap])
  | (refine CallP.okL (ho _) (by first | (simp [zaa, getK, zab, zac, zal, zaL, del]; done) | fail) (by rfl) (by rfl) ?_; (try simp [zcV, del]))
  | fail)
     refine zgJ hesc hdfr rfl (by simp) ?_;have hn0 := hn;have hpan0 := hpan;intro Γ' hn hpan;simp
     repeat' (first
  | ((first | refine zag ?_ | refine zaj ?_ | refine zah ?_ | fail); simp [hk, hv, hv2, del])
  | (refine CallP.fE (hlv) (by first | rfl | fail) (by first | simp [hk, hv, hv2, del] <;> rfl | fail) ?_; (try simp [hk, hv, hv2, del]))
  | (refine CallP.fE (hnx) (by first | rfl | fail) (by first | simp [hk, hv, hv2, del] <;> rfl | fail) ?_; (try simp [hk, hv, hv2, del]))
  | (refine CallP.ok1 (hEx) (by first | (simp [hk, hv, hv2, del, zaa, getK, zab, zac]; done) | fail) (by rfl) (by rfl) ?_; (try simp [hk, hv, hv2, del]))
  | (refine CallP.ok1 (hc1 _ (by simp)) (by first | (simp [hk, hv, hv2, del, zaa, getK, zab, zac]; done) | fail) (by rfl) (by rfl) ?_; (try simp [hk, hv, hv2, del]))
  | (refine CallP.zeW (hc2 _ (by simp)) (by first | (simp [hk, hv, hv2, del, zaa, getK, zab, zac]; done) | fail) (by rfl) (by first | assumption | (simp; done) | fail) (by rfl) (by simp) ?_; rintro ob' ⟨q', rfl⟩; refine ⟨_, Wk.refl _, ?_⟩)
  | fail)
     refine hpan _ _ ?_;refine LeaveD.of [(1, .box [.u (.int .i64 0)]), (2, .box [.u (.int .i64 0)]), (0, zkw)] (by simp [zaa, getK, zab, zac]) (ziK 1 2 0 _ (by simp) (by simp) (by simp) (by decide) (by decide) (by decide) 0 0 _ _ 0 0 0 [] .nil) ?_;simp only [show Γ.base.n0 = 0 from hn0];simp [zcV, del];refine EndW.norm ?_;simp [St.norm, zaD, zaT, zaV, zaW]
     (refine EndW.here ?_; (first | (refine EndOK.fin (.inr rfl) ?_) | (refine EndOK.fin (.inl rfl) ?_)); simp [zaA, zae, Tryz.results12]; refine FinOK.here (by simp) ?_; try simp)
     simp [zlI, Exp.row, zcK]
    ·have hc2 := fun nx (h : 3 < nx) => zd0 l q 6 3 nx h;have hv2 : y.lev <= 12 := by omega
     rw [if_neg hv]
     (refine RetX.zdH Tryz.func12 rfl (by simp) fun Γ hn hdfr hpan hesc => ?_); simp only [entry, ziC, ziN, maC, maN, oA, Tryz.ntmps12]
     rw [zdJ]
     repeat' (first
  | ((first | refine zag ?_ | refine zaj ?_ | refine zah ?_ | refine zai ?_ | fail); simp)
  | (refine zao ?_; simp only [zap])
  | (refine CallP.okL (ho _) (by first | (simp [zaa, getK, zab, zac, zal, zaL, del]; done) | fail) (by rfl) (by rfl) ?_; (try simp [zcV, del]))
  | fail)
     refine zgJ hesc hdfr rfl (by simp) ?_;have hn0 := hn;have hpan0 := hpan;intro Γ' hn hpan;simp
     repeat' (first
  | ((first | refine zag ?_ | refine zaj ?_ | refine zah ?_ | fail); simp [hk, hv, hv2, del])
  | (refine zaq ?_; simp only [zap])
  | (refine CallP.fE (hlv) (by first | rfl | fail) (by first | simp [hk, hv, hv2, del] <;> rfl | fail) ?_; (try simp [hk, hv, hv2, del]))
  | (refine CallP.fE (hnx) (by first | rfl | fail) (by first | simp [hk, hv, hv2, del] <;> rfl | fail) ?_; (try simp [hk, hv, hv2, del]))
  | (refine CallP.ok1 (hEx) (by first | (simp [hk, hv, hv2, del, zaa, getK, zab, zac]; done) | fail) (by rfl) (by rfl) ?_; (try simp [hk, hv, hv2, del]))
  | (refine CallP.ok1 (hc1 _ (by simp)) (by first | (simp [hk, hv, hv2, del, zaa, getK, zab, zac]; done) | fail) (by rfl) (by rfl) ?_; (try simp [hk, hv, hv2, del]))
  | (refine CallP.ok1 (hc2 _ (by simp)) (by first | (simp [hk, hv, hv2, del, zaa, getK, zab, zac]; done) | fail) (by rfl) (by rfl) ?_; (try simp [hk, hv, hv2, del]))
  | fail)
     refine ⟨rfl, ?_⟩;refine LeaveD.of [(1, .box [.u (.int .i64 0)]), (2, .box [.u (.int .i64 0)]), (0, .box ([.int .i64 y.op, .int .i64 y.n, .int .i64 y.unit, .str y.s, .sl (y.args.map Exp.row)].map .u))] (by simp [zaa, getK, zab, zac]) (zpL 1 2 0 _ (by simp) (by simp) (by simp) (by decide) (by decide) (by decide) 0 0 _) ?_;simp only [show Γ.base.n0 = 0 from hn0];simp [zcV, del]
     (refine EndW.here ?_; (first | (refine EndOK.fin (.inr rfl) ?_) | (refine EndOK.fin (.inl rfl) ?_)); simp [zaA, zae, Tryz.results12]; refine FinOK.here (by simp) ?_; try simp)
     simp [zlI, Exp.row_eq]
   ·have hc1 := fun nx (h : 3 < nx) => zcS l q t 12 3 nx h ht hl.len;rw [if_pos hk]
    (refine RetX.zdH Tryz.func12 rfl (by simp) fun Γ hn hdfr hpan hesc => ?_); simp only [entry, ziC, ziN, maC, maN, oA, Tryz.ntmps12]
    rw [zdJ]
    repeat' (first
  | ((first | refine zag ?_ | refine zaj ?_ | refine zah ?_ | refine zai ?_ | fail); simp)
  | (refine zao ?_; simp only [zap])
  | (refine CallP.okL (ho _) (by first | (simp [zaa, getK, zab, zac, zal, zaL, del]; done) | fail) (by rfl) (by rfl) ?_; (try simp [zcV, del]))
  | fail)
    refine zgJ hesc hdfr rfl (by simp) ?_;have hn0 := hn;have hpan0 := hpan;intro Γ' hn hpan;simp
    repeat' (first
  | ((first | refine zag ?_ | refine zaj ?_ | refine zah ?_ | fail); simp [hk, del])
  | (refine CallP.fE (hnx) (by first | rfl | fail) (by first | simp [hk, del] <;> rfl | fail) ?_; (try simp [hk, del]))
  | (refine CallP.ok1 (hEx) (by first | (simp [hk, del, zaa, getK, zab, zac]; done) | fail) (by rfl) (by rfl) ?_; (try simp [hk, del]))
  | (refine CallP.zeW (hc1 _ (by simp)) (by first | (simp [hk, del, zaa, getK, zab, zac]; done) | fail) (by rfl) (by first | assumption | (simp; done) | fail) (by rfl) (by simp) ?_; rintro ob' ⟨q', rfl⟩; refine ⟨_, Wk.refl _, ?_⟩)
  | fail)
    refine hpan _ _ ?_;refine LeaveD.of [(1, .box [.u (.int .i64 0)]), (2, .box [.u (.int .i64 0)]), (0, zkw)] (by simp [zaa, getK, zab, zac]) (ziK 1 2 0 _ (by simp) (by simp) (by simp) (by decide) (by decide) (by decide) 0 0 _ _ 0 0 0 [] .nil) ?_;simp only [show Γ.base.n0 = 0 from hn0];simp [zcV, del];refine EndW.norm ?_;simp [St.norm, zaD, zaT, zaV, zaW]
    (refine EndW.here ?_; (first | (refine EndOK.fin (.inr rfl) ?_) | (refine EndOK.fin (.inl rfl) ?_)); simp [zaA, zae, Tryz.results12]; refine FinOK.here (by simp) ?_; try simp)
    simp [zlI, Exp.row, zcK]
theorem zgM (s : List UInt8) : Fun Tryz.prog 12 [.u (.str s)] (· = .tup [zkA (zcN s).1, .u (.int .i64 (zcN s).2.1), .u (.int .i64 (zcN s).2.2)]) := by
 unfold Fun;exact (zj1 s).ret (fun d o n h => by
  cases h;refine ⟨by simp [zlI, zar], ?_⟩;rw [zlI, Exp.row_eq];rfl) (fun ch o n h => by cases h)
theorem zmZ (l : List Tok) (p : Nat) (a b : Int) (i nx : Nat) (hi : i < nx) (hp : p < l.length) (hl : TokOK l) :
  RetX Tryz.prog 128 [.ptr i 0, zi0 a, zi0 b] [(i, pOb l p)] nx (PPost l i nx zi0 (zpt l p a b)) := by
 have hne := zaw hi;obtain ⟨t, ht⟩ : ∃ t, l[p]? = some t := ⟨_, List.getElem?_eq_getElem hp⟩;have hnx := zb9 l p t ht hl.len;have hll := hl.len;have hc1 := fun e nx' (h : nx <= nx') => zd0 l p e i nx' (by omega);have hc2 := fun e nx' (h : nx <= nx') => zcS l p t e i nx' (by omega) ht hl.len;rw [zpt, ht];by_cases hk2 : t.kind = 2
 ·simp only [hk2, if_true];by_cases h1 : a <= t.n
  ·by_cases h2 : t.n <= b
   ·simp only [h1, h2, and_self, if_true]
    (refine RetX.of_bodyW Tryz.func128 rfl (by simp) fun Γ hn hpan => ?_); simp only [entry, ziC, ziN, maC, maN, oA, Tryz.ntmps128]
    repeat' (first
  | ((first | refine zag ?_ | refine zaj ?_ | fail); simp [hne, hk2, h1, h2, del])
  | (refine ⟨by omega, ?_⟩)
  | (refine zah ?_; simp [hne, hk2, h1, h2, del])
  | (refine zaq ?_; simp only [zap])
  | (refine CallP.fE (hnx) (by first | rfl | fail) (by first | simp [hne, hk2, h1, h2, del] <;> rfl | fail) ?_; (try simp [hne, hk2, h1, h2, del]))
  | (refine CallP.ok1 (hc1 _ _ (by first | omega | simp <;> omega | fail)) (by first | (simp [hne, hk2, h1, h2, del, zaa, getK, zab, zac]; done) | fail) (by rfl) (by rfl) ?_; (try simp [hne, hk2, h1, h2, del]))
  | fail)
    (refine EndW.here ?_; (first | (refine EndOK.fin (.inr rfl) ?_) | (refine EndOK.fin (.inl rfl) ?_)); simp [zaA, zae, Tryz.results128, hne, hi]; refine FinOK.cut [(i, pOb l (p + 1))] (nx) (by simp [zaa, getK, zab, zac, Ob.under, D.under, zad, zaf, hne, hi] <;> omega) (by simp [D.under]) (by simp [hn]) ?_; try simp)
    exact PPost.zcy rfl rfl rfl
   ·simp only [h1, h2, and_false, if_false]
    (refine RetX.of_bodyW Tryz.func128 rfl (by simp) fun Γ hn hpan => ?_); simp only [entry, ziC, ziN, maC, maN, oA, Tryz.ntmps128]
    repeat' (first
  | ((first | refine zag ?_ | refine zaj ?_ | refine zah ?_ | fail); simp [hne, hk2, h1, h2, del])
  | (refine CallP.fE (hnx) (by first | rfl | fail) (by first | simp [hne, hk2, h1, h2, del] <;> rfl | fail) ?_; (try simp [hne, hk2, h1, h2, del]))
  | (refine CallP.ok1 (hc1 _ _ (by first | omega | simp <;> omega | fail)) (by first | (simp [hne, hk2, h1, h2, del, zaa, getK, zab, zac]; done) | fail) (by rfl) (by rfl) ?_; (try simp [hne, hk2, h1, h2, del]))
  | (refine CallP.zeW (hc2 _ _ (by first | omega | simp <;> omega | fail)) (by first | (simp [hne, hk2, h1, h2, del, zaa, getK, zab, zac]; done) | fail) (by rfl) (by first | assumption | (simp; done) | fail) (by rfl) (by simp) ?_; rintro ob' ⟨q', rfl⟩; refine ⟨_, Wk.refl _, ?_⟩)
  | fail)
    (refine hpan _ _ ⟨{ n := _, env := [], obs := [(i, pOb l q')], next := nx }, (Wk.cut rfl (by simp [hn]) (by simp [wkO, zaa, getK, zab, zac, Ob.under, D.under, zad, zaf, hi, hne, zab, zac, zaa, getK]) (by simp [wkU, zan, zaa, getK, D.under, hi, hne, zab, zac, zaa, getK]) (by simp [wkE, zan, zaa, getK, hi, hne, zab, zac, zaa, getK])), by simp [hn], ?_⟩; try simp)
    exact PPost.zaF (by simp [PR.bind, *])
  ·simp only [h1, false_and, if_false]
   (refine RetX.of_bodyW Tryz.func128 rfl (by simp) fun Γ hn hpan => ?_); simp only [entry, ziC, ziN, maC, maN, oA, Tryz.ntmps128]
   repeat' (first
  | ((first | refine zag ?_ | refine zaj ?_ | refine zah ?_ | fail); simp [hne, hk2, h1, del])
  | (refine CallP.fE (hnx) (by first | rfl | fail) (by first | simp [hne, hk2, h1, del] <;> rfl | fail) ?_; (try simp [hne, hk2, h1, del]))
  | (refine CallP.ok1 (hc1 _ _ (by first | omega | simp <;> omega | fail)) (by first | (simp [hne, hk2, h1, del, zaa, getK, zab, zac]; done) | fail) (by rfl) (by rfl) ?_; (try simp [hne, hk2, h1, del]))
  | (refine CallP.zeW (hc2 _ _ (by first | omega | simp <;> omega | fail)) (by first | (simp [hne, hk2, h1, del, zaa, getK, zab, zac]; done) | fail) (by rfl) (by first | assumption | (simp; done) | fail) (by rfl) (by simp) ?_; rintro ob' ⟨q', rfl⟩; refine ⟨_, Wk.refl _, ?_⟩)
  | fail)
   (refine hpan _ _ ⟨{ n := _, env := [], obs := [(i, pOb l q')], next := nx }, (Wk.cut rfl (by simp [hn]) (by simp [wkO, zaa, getK, zab, zac, Ob.under, D.under, zad, zaf, hi, hne, zab, zac, zaa, getK]) (by simp [wkU, zan, zaa, getK, D.under, hi, hne, zab, zac, zaa, getK]) (by simp [wkE, zan, zaa, getK, hi, hne, zab, zac, zaa, getK])), by simp [hn], ?_⟩; try simp)
   exact PPost.zaF (by simp [PR.bind, *])
 ·simp only [hk2, if_false]
  (refine RetX.of_bodyW Tryz.func128 rfl (by simp) fun Γ hn hpan => ?_); simp only [entry, ziC, ziN, maC, maN, oA, Tryz.ntmps128]
  repeat' (first
  | ((first | refine zag ?_ | refine zaj ?_ | refine zah ?_ | fail); simp [hne, hk2, del])
  | (refine CallP.fE (hnx) (by first | rfl | fail) (by first | simp [hne, hk2, del] <;> rfl | fail) ?_; (try simp [hne, hk2, del]))
  | (refine CallP.zeW (hc2 _ _ (by first | omega | simp <;> omega | fail)) (by first | (simp [hne, hk2, del, zaa, getK, zab, zac]; done) | fail) (by rfl) (by first | assumption | (simp; done) | fail) (by rfl) (by simp) ?_; rintro ob' ⟨q', rfl⟩; refine ⟨_, Wk.refl _, ?_⟩)
  | fail)
  (refine hpan _ _ ⟨{ n := _, env := [], obs := [(i, pOb l q')], next := nx }, (Wk.cut rfl (by simp [hn]) (by simp [wkO, zaa, getK, zab, zac, Ob.under, D.under, zad, zaf, hi, hne, zab, zac, zaa, getK]) (by simp [wkU, zan, zaa, getK, D.under, hi, hne, zab, zac, zaa, getK]) (by simp [wkE, zan, zaa, getK, hi, hne, zab, zac, zaa, getK])), by simp [hn], ?_⟩; try simp)
  exact PPost.zaF (by simp [PR.bind, *])
theorem zlm {l : List Tok} (hl : TokOK l) {p q : Nat} {a b n : Int} (h : zpt l p a b = .ok n q) : p <= q /\ q < l.length := by
 unfold zpt at h;split at h
 ·cases h
 ·rename_i t ht;split at h
  ·rename_i hk2;split at h
   ·cases h;exact ⟨by omega, hl.fin p t ht (by omega)⟩
   ·cases h
  ·cases h
theorem zdW (l : List Tok) (p : Nat) (w : List UInt8) (a b : Int) (ws : List (List UInt8)) (i nx : Nat) (hi : i < nx) (hp : p < l.length) (hl : TokOK l) (hw : ws.length <= 100) :
  RetX Tryz.prog 80 [.ptr i 0, .u (.str w), zi0 a, zi0 b, .u (.sl (ws.map fun w => [.str w]))] [(i, pOb l p)] nx (PPost l i nx zi0 (zdr l p w a b ws)) := by
 have hne := zaw hi;have hh1 := fun nx' (h : nx <= nx') => zbj l p w i nx' (by omega) hp hl.len;rw [zdr];cases hb : isB l p w with
 | false =>
  simp only [hb, Bool.false_eq_true, if_false] at hh1 ⊢
  (refine RetX.of_bodyW Tryz.func80 rfl (by simp) fun Γ hn hpan => ?_); simp only [entry, ziC, ziN, maC, maN, oA, Tryz.ntmps80]
  repeat' (first
  | ((first | refine zag ?_ | refine zaj ?_ | refine zah ?_ | refine zai ?_ | fail); simp [hne, del])
  | (refine zaq ?_; simp only [zap])
  | (refine CallP.ok1 (hh1 _ (by first | omega | simp <;> omega | fail)) (by first | (simp [hne, del, zaa, getK, zab, zac]; done) | fail) (by rfl) (by rfl) ?_; (try simp [hne, del]))
  | fail)
  (refine EndW.here ?_; (first | (refine EndOK.fin (.inr rfl) ?_) | (refine EndOK.fin (.inl rfl) ?_)); simp [zaA, zae, Tryz.results80, hne, hi]; refine FinOK.cut [(i, pOb l p)] (nx) (by simp [zaa, getK, zab, zac, Ob.under, D.under, zad, zaf, hne, hi] <;> omega) (by simp [D.under]) (by simp [hn]) ?_; try simp)
  exact PPost.zcy rfl rfl rfl
 | true =>
  have hp2 := zaO hl hb;simp only [hb, if_true] at hh1 ⊢;have hn1 := fun nx' (h : nx <= nx') => zmZ l (p + 1) a b i nx' (by omega) hp2 hl;cases hr0 : zpt l (p + 1) a b with
  | stop pos e =>
   simp only [hr0] at hn1
   (refine RetX.of_bodyW Tryz.func80 rfl (by simp) fun Γ hn hpan => ?_); simp only [entry, ziC, ziN, maC, maN, oA, Tryz.ntmps80]
   repeat' (first
  | ((first | refine zag ?_ | refine zaj ?_ | refine zah ?_ | refine zai ?_ | fail); simp [hne, del])
  | (refine zao ?_; simp only [zap])
  | (refine CallP.ok1 (hh1 _ (by first | omega | simp <;> omega | fail)) (by first | (simp [hne, del, zaa, getK, zab, zac]; done) | fail) (by rfl) (by rfl) ?_; (try simp [hne, del]))
  | (refine CallP.zeW (hn1 _ (by first | omega | simp <;> omega | fail)) (by first | (simp [hne, del, zaa, getK, zab, zac]; done) | fail) (by rfl) (by first | assumption | (simp; done) | fail) (by rfl) (by simp) ?_; rintro ob' ⟨q', rfl⟩; refine ⟨_, Wk.refl _, ?_⟩)
  | fail)
   (refine hpan _ _ ⟨{ n := _, env := [], obs := [(i, pOb l q')], next := nx }, (Wk.cut rfl (by simp [hn]) (by simp [wkO, zaa, getK, zab, zac, Ob.under, D.under, zad, zaf, hi, hne, zab, zac, zaa, getK]) (by simp [wkU, zan, zaa, getK, D.under, hi, hne, zab, zac, zaa, getK]) (by simp [wkE, zan, zaa, getK, hi, hne, zab, zac, zaa, getK])), by simp [hn], ?_⟩; try simp)
   exact PPost.zaF (by simp [PR.bind, *])
  | ok n q0 =>
   simp only [hr0] at hn1;obtain ⟨g0a, g0b⟩ := zlm hl hr0;have hw1 := fun nx' (h : nx <= nx') => zis l q0 ws i nx' (by omega) g0b hl hw;cases hr1 : zbd l q0 ws with
   | stop pos e =>
    simp only [hr1] at hw1
    (refine RetX.of_bodyW Tryz.func80 rfl (by simp) fun Γ hn hpan => ?_); simp only [entry, ziC, ziN, maC, maN, oA, Tryz.ntmps80]
    repeat' (first
  | ((first | refine zag ?_ | refine zaj ?_ | refine zah ?_ | refine zai ?_ | fail); simp [hne, del])
  | (refine zao ?_; simp only [zap])
  | (refine CallP.ok1 (hh1 _ (by first | omega | simp <;> omega | fail)) (by first | (simp [hne, del, zaa, getK, zab, zac]; done) | fail) (by rfl) (by rfl) ?_; (try simp [hne, del]))
  | (refine CallP.ok1 (hn1 _ (by first | omega | simp <;> omega | fail)) (by first | (simp [hne, del, zaa, getK, zab, zac]; done) | fail) (by rfl) (by rfl) ?_; (try simp [hne, del]))
  | (refine CallP.zeW (hw1 _ (by first | omega | simp <;> omega | fail)) (by first | (simp [hne, del, zaa, getK, zab, zac]; done) | fail) (by rfl) (by first | assumption | (simp; done) | fail) (by rfl) (by simp) ?_; rintro ob' ⟨q', rfl⟩; refine ⟨_, Wk.refl _, ?_⟩)
  | fail)
    (refine hpan _ _ ⟨{ n := _, env := [], obs := [(i, pOb l q')], next := nx }, (Wk.cut rfl (by simp [hn]) (by simp [wkO, zaa, getK, zab, zac, Ob.under, D.under, zad, zaf, hi, hne, zab, zac, zaa, getK]) (by simp [wkU, zan, zaa, getK, D.under, hi, hne, zab, zac, zaa, getK]) (by simp [wkE, zan, zaa, getK, hi, hne, zab, zac, zaa, getK])), by simp [hn], ?_⟩; try simp)
    exact PPost.zaF (by simp [PR.bind, *])
   | ok u q =>
    simp only [hr1] at hw1
    (refine RetX.of_bodyW Tryz.func80 rfl (by simp) fun Γ hn hpan => ?_); simp only [entry, ziC, ziN, maC, maN, oA, Tryz.ntmps80]
    repeat' (first
  | ((first | refine zag ?_ | refine zaj ?_ | refine zah ?_ | refine zai ?_ | fail); simp [hne, del])
  | ((first | refine zaq ?_ | refine zao ?_ | fail); simp only [zap])
  | (refine CallP.ok1 (hh1 _ (by first | omega | simp <;> omega | fail)) (by first | (simp [hne, del, zaa, getK, zab, zac]; done) | fail) (by rfl) (by rfl) ?_; (try simp [hne, del]))
  | (refine CallP.ok1 (hn1 _ (by first | omega | simp <;> omega | fail)) (by first | (simp [hne, del, zaa, getK, zab, zac]; done) | fail) (by rfl) (by rfl) ?_; (try simp [hne, del]))
  | (refine CallP.ok1 (hw1 _ (by first | omega | simp <;> omega | fail)) (by first | (simp [hne, del, zaa, getK, zab, zac]; done) | fail) (by rfl) (by rfl) ?_; (try simp [hne, del]))
  | fail)
    (refine EndW.here ?_; (first | (refine EndOK.fin (.inr rfl) ?_) | (refine EndOK.fin (.inl rfl) ?_)); simp [zaA, zae, Tryz.results80, hne, hi]; refine FinOK.cut [(i, pOb l q)] (nx) (by simp [zaa, getK, zab, zac, Ob.under, D.under, zad, zaf, hne, hi] <;> omega) (by simp [D.under]) (by simp [hn]) ?_; try simp)
    exact PPost.zcy (by simp [PR.bind, *]) rfl rfl
theorem zb0 {l : List Tok} (hl : TokOK l) {p q : Nat} {w : List UInt8} {a b n : Int} {ws : List (List UInt8)} (h : zdr l p w a b ws = .ok n q) (hp : p < l.length) : p <= q /\ q < l.length := by
 unfold zdr at h;split at h
 ·obtain ⟨m, r, h1, h⟩ := PR.zaC h;have g1 := zlm hl h1;obtain ⟨m2, r2, h2, h⟩ := PR.zaC h;have g2 := zaJ hl _ h2 g1.2;cases h;exact ⟨by omega, g2.2⟩
 ·cases h; exact ⟨by omega, hp⟩
theorem zha (l : List Tok) (p : Nat) (i nx : Nat) (hi : i < nx) (hp : p < l.length) (hl : TokOK l) (hl2 : l.length <= 2001) :
  RetX Tryz.prog 84 [.ptr i 0] [(i, pOb l p)] nx (PPost l i nx zeO (zdu l p)) := by
 have hne := zaw hi;have hll := hl.len;rw [zdu];have hE := fun nx' (h : nx <= nx') => (zjZ hl (4 * l.length + 3)).1 p 0 i nx' (by omega) hp (by omega) (by omega) (by omega);cases hr : zdZ l (4 * l.length + 3) p 0 with
 | stop pos e =>
  simp only [hr] at hE
  (refine RetX.of_bodyW Tryz.func84 rfl (by simp) fun Γ hn hpan => ?_); simp only [entry, ziC, ziN, maC, maN, oA, Tryz.ntmps84]
  repeat' (first
  | ((first | refine zag ?_ | refine zaj ?_ | refine zah ?_ | fail); simp [hne, del])
  | (refine CallP.zeW (hE _ (by first | omega | simp <;> omega | fail)) (by first | (simp [hne, del, zaa, getK, zab, zac]; done) | fail) (by rfl) (by first | assumption | (simp; done) | fail) (by rfl) (by simp) ?_; rintro ob' ⟨q', rfl⟩; refine ⟨_, Wk.refl _, ?_⟩)
  | fail)
  (refine hpan _ _ ⟨{ n := _, env := [], obs := [(i, pOb l q')], next := nx }, (Wk.cut rfl (by simp [hn]) (by simp [wkO, zaa, getK, zab, zac, Ob.under, D.under, zad, zaf, hi, hne, zab, zac, zaa, getK]) (by simp [wkU, zan, zaa, getK, D.under, hi, hne, zab, zac, zaa, getK]) (by simp [wkE, zan, zaa, getK, hi, hne, zab, zac, zaa, getK])), by simp [hn], ?_⟩; try simp)
  exact PPost.zaF (by simp [PR.bind, *])
 | ok y q =>
  have hEx := fun nx' h => zdy (hE nx' h) hr;obtain ⟨g0a, g0b⟩ := (zbF hl _).1 _ _ _ _ hr hp;have hlev := (zfZ (l := l) _).1 _ _ _ _ hr;have hlev2 : y.lev <= 1000000000 := by
   have h1 : ((4 * l.length + 3 : Nat) : Int) * ((4 * l.length + 3 : Nat) : Int) <= 8007 * 8007 := Int.mul_le_mul (by omega) (by omega) (by omega) (by omega);omega
  have hlv := zib (SizeOf.sizeOf y) y (Nat.le_refl _) hlev2;rw [Exp.row_eq] at hlv;obtain ⟨t, ht⟩ : ∃ t, l[q]? = some t := ⟨_, List.getElem?_eq_getElem g0b⟩;have his := zeN l q [59] g0b hl.len;have hpa : zbL l q = t.pos := by unfold zbL; rw [ht]
  have hc1 := fun e nx' (h : nx <= nx') => zd0 l q e i nx' (by omega);have hc2 := fun e nx' (h : nx <= nx') => zcS l q t e i nx' (by omega) ht hl.len;rw [PR.zaB, hpa];cases hb : isB l q [59] with
  | false =>
   simp only [hb, Bool.false_eq_true, if_false] at his ⊢
   (refine RetX.of_bodyW Tryz.func84 rfl (by simp) fun Γ hn hpan => ?_); simp only [entry, ziC, ziN, maC, maN, oA, Tryz.ntmps84]
   repeat' (first
  | ((first | refine zag ?_ | refine zaj ?_ | refine zah ?_ | fail); simp [hne, del])
  | (refine CallP.fE (his) (by first | rfl | fail) (by first | simp [hne, del] <;> rfl | fail) ?_; (try simp [hne, del]))
  | (refine CallP.ok1 (hEx _ (by first | omega | simp <;> omega | fail)) (by first | (simp [hne, del, zaa, getK, zab, zac]; done) | fail) (by rfl) (by rfl) ?_; (try simp [hne, del]))
  | (refine CallP.zeW (hc2 _ _ (by first | omega | simp <;> omega | fail)) (by first | (simp [hne, del, zaa, getK, zab, zac]; done) | fail) (by rfl) (by first | assumption | (simp; done) | fail) (by rfl) (by simp) ?_; rintro ob' ⟨q', rfl⟩; refine ⟨_, Wk.refl _, ?_⟩)
  | fail)
   (refine hpan _ _ ⟨{ n := _, env := [], obs := [(i, pOb l q')], next := nx }, (Wk.cut rfl (by simp [hn]) (by simp [wkO, zaa, getK, zab, zac, Ob.under, D.under, zad, zaf, hi, hne, zab, zac, zaa, getK]) (by simp [wkU, zan, zaa, getK, D.under, hi, hne, zab, zac, zaa, getK]) (by simp [wkE, zan, zaa, getK, hi, hne, zab, zac, zaa, getK])), by simp [hn], ?_⟩; try simp)
   exact PPost.zaF (by simp [PR.bind, *])
  | true =>
   have hq2 := zaO hl hb;simp only [hb, if_true] at his ⊢;by_cases hv : y.lev <= 12
   ·simp only [hv, if_true]
    (refine RetX.of_bodyW Tryz.func84 rfl (by simp) fun Γ hn hpan => ?_); simp only [entry, ziC, ziN, maC, maN, oA, Tryz.ntmps84]
    repeat' (first
  | ((first | refine zag ?_ | refine zaj ?_ | fail); simp [hne, del, hv])
  | (refine ⟨by omega, ?_⟩)
  | (refine zah ?_; simp [hne, del, hv])
  | (refine zaq ?_; simp only [zap])
  | (refine CallP.fE (his) (by first | rfl | fail) (by first | simp [hne, del, hv] <;> rfl | fail) ?_; (try simp [hne, del, hv]))
  | (refine CallP.fE (hlv) (by first | rfl | fail) (by first | simp [hne, del, hv] <;> rfl | fail) ?_; (try simp [hne, del, hv]))
  | (refine CallP.ok1 (hEx _ (by first | omega | simp <;> omega | fail)) (by first | (simp [hne, del, hv, zaa, getK, zab, zac]; done) | fail) (by rfl) (by rfl) ?_; (try simp [hne, del, hv]))
  | (refine CallP.ok1 (hc1 _ _ (by first | omega | simp <;> omega | fail)) (by first | (simp [hne, del, hv, zaa, getK, zab, zac]; done) | fail) (by rfl) (by rfl) ?_; (try simp [hne, del, hv]))
  | fail)
    refine EndW.norm ?_;simp [St.norm, zaD, zaT, zaV, zaW, hne, nAA]
    (refine EndW.here ?_; (first | (refine EndOK.fin (.inr rfl) ?_) | (refine EndOK.fin (.inl rfl) ?_)); simp [zaA, zae, Tryz.results84, hne, hi]; refine FinOK.cut [(i, pOb l (q + 1))] (nx) (by simp [zaa, getK, zab, zac, Ob.under, D.under, zad, zaf, hne, hi] <;> omega) (by simp [D.under]) (by simp [hn]) ?_; try simp)
    exact PPost.zcy rfl (by simp [Exp.row_eq]) rfl
   ·simp only [hv, if_false]
    (refine RetX.of_bodyW Tryz.func84 rfl (by simp) fun Γ hn hpan => ?_); simp only [entry, ziC, ziN, maC, maN, oA, Tryz.ntmps84]
    repeat' (first
  | ((first | refine zag ?_ | refine zaj ?_ | refine zah ?_ | fail); simp [hne, del, hv])
  | (refine CallP.fE (his) (by first | rfl | fail) (by first | simp [hne, del, hv] <;> rfl | fail) ?_; (try simp [hne, del, hv]))
  | (refine CallP.fE (hlv) (by first | rfl | fail) (by first | simp [hne, del, hv] <;> rfl | fail) ?_; (try simp [hne, del, hv]))
  | (refine CallP.ok1 (hEx _ (by first | omega | simp <;> omega | fail)) (by first | (simp [hne, del, hv, zaa, getK, zab, zac]; done) | fail) (by rfl) (by rfl) ?_; (try simp [hne, del, hv]))
  | (refine CallP.ok1 (hc1 _ _ (by first | omega | simp <;> omega | fail)) (by first | (simp [hne, del, hv, zaa, getK, zab, zac]; done) | fail) (by rfl) (by rfl) ?_; (try simp [hne, del, hv]))
  | (refine CallP.zeW (hc2 _ _ (by first | omega | simp <;> omega | fail)) (by first | (simp [hne, del, hv, zaa, getK, zab, zac]; done) | fail) (by rfl) (by first | assumption | (simp; done) | fail) (by rfl) (by simp) ?_; rintro ob' ⟨q', rfl⟩; refine ⟨_, Wk.refl _, ?_⟩)
  | fail)
    (refine hpan _ _ ⟨{ n := _, env := [], obs := [(i, pOb l q')], next := nx }, (Wk.cut rfl (by simp [hn]) (by simp [wkO, zaa, getK, zab, zac, Ob.under, D.under, zad, zaf, hi, hne, zab, zac, zaa, getK]) (by simp [wkU, zan, zaa, getK, D.under, hi, hne, zab, zac, zaa, getK]) (by simp [wkE, zan, zaa, getK, hi, hne, zab, zac, zaa, getK])), by simp [hn], ?_⟩; try simp)
    exact PPost.zaF (by simp [PR.bind, *])
theorem zdL {l : List Tok} (hl : TokOK l) {p q : Nat} {e : Exp} (h : zdu l p = .ok e q) (hp : p < l.length) : p <= q /\ q < l.length := by
 unfold zdu at h;obtain ⟨y, r, h1, h⟩ := PR.zaC h;have g1 := (zbF hl _).1 _ _ _ _ h1 hp;split at h
 ·rename_i hb;split at h
  ·cases h;exact ⟨by omega, zaO hl hb⟩
  ·cases h
 ·cases h
theorem zhm : Fun Tryz.prog 58 [] (· = .u (.agg nothingE.row)) := by
 simp only [nothingE, Exp.row, List.map_nil]
 (refine Fun.of_bodyW Tryz.func58 rfl (by simp) fun Γ hn => ?_); simp only [entry, ziC, ziN, maC, maN, oA, Tryz.ntmps58]
 repeat' (first
  | ((first | refine zag ?_ | refine zaj ?_ | refine zah ?_ | fail); simp)
  | (refine zaq ?_; simp only [zap])
  | fail)
 refine EndW.norm ?_;simp [St.norm, zaD, zaT, zaV, zaW];refine EndW.here ?_
 (refine EndOK.val (.inr rfl) ?_; simp [zaA, zae, zar, Tryz.results58])
theorem zfz (l : List Tok) (p : Nat) (w : List UInt8) (i nx : Nat) (hi : i < nx) (hp : p < l.length) (hl : TokOK l) (hl2 : l.length <= 2001) :
  RetX Tryz.prog 85 [.ptr i 0, .u (.str w)] [(i, pOb l p)] nx (PPost l i nx zeO (zdt l p w)) := by
 have hne := zaw hi;have hh1 := fun nx' (h : nx <= nx') => zbj l p w i nx' (by omega) hp hl.len;rw [zdt];cases hb : isB l p w with
 | false =>
  have h0 := zhm;simp only [nothingE, Exp.row, List.map_nil] at h0;simp only [hb, Bool.false_eq_true, if_false] at hh1 ⊢
  (refine RetX.of_bodyW Tryz.func85 rfl (by simp) fun Γ hn hpan => ?_); simp only [entry, ziC, ziN, maC, maN, oA, Tryz.ntmps85]
  repeat' (first
  | ((first | refine zag ?_ | refine zaj ?_ | refine zah ?_ | refine zai ?_ | fail); simp [hne, del])
  | ((first | refine zaq ?_ | refine zao ?_ | fail); simp only [zap])
  | (refine CallP.fE (h0) (by first | rfl | fail) (by first | simp [hne, del] <;> rfl | fail) ?_; (try simp [hne, del]))
  | (refine CallP.ok1 (hh1 _ (by first | omega | simp <;> omega | fail)) (by first | (simp [hne, del, zaa, getK, zab, zac]; done) | fail) (by rfl) (by rfl) ?_; (try simp [hne, del]))
  | fail)
  refine EndW.norm ?_;simp [St.norm, zaD, zaT, zaV, zaW, hne, nAA]
  (refine EndW.here ?_; (first | (refine EndOK.fin (.inr rfl) ?_) | (refine EndOK.fin (.inl rfl) ?_)); simp [zaA, zae, Tryz.results85, hne, hi]; refine FinOK.cut [(i, pOb l p)] (nx) (by simp [zaa, getK, zab, zac, Ob.under, D.under, zad, zaf, hne, hi] <;> omega) (by simp [D.under]) (by simp [hn]) ?_; try simp)
  exact PPost.zcy rfl (by simp [nothingE, Exp.row]) rfl
 | true =>
  have hp2 := zaO hl hb;simp only [hb, if_true] at hh1 ⊢;have hn1 := fun nx' (h : nx <= nx') => zha l (p + 1) i nx' (by omega) hp2 hl hl2;cases hr0 : zdu l (p + 1) with
  | stop pos e =>
   simp only [hr0] at hn1
   (refine RetX.of_bodyW Tryz.func85 rfl (by simp) fun Γ hn hpan => ?_); simp only [entry, ziC, ziN, maC, maN, oA, Tryz.ntmps85]
   repeat' (first
  | ((first | refine zag ?_ | refine zaj ?_ | refine zah ?_ | refine zai ?_ | fail); simp [hne, del])
  | (refine CallP.ok1 (hh1 _ (by first | omega | simp <;> omega | fail)) (by first | (simp [hne, del, zaa, getK, zab, zac]; done) | fail) (by rfl) (by rfl) ?_; (try simp [hne, del]))
  | (refine CallP.zeW (hn1 _ (by first | omega | simp <;> omega | fail)) (by first | (simp [hne, del, zaa, getK, zab, zac]; done) | fail) (by rfl) (by first | assumption | (simp; done) | fail) (by rfl) (by simp) ?_; rintro ob' ⟨q', rfl⟩; refine ⟨_, Wk.refl _, ?_⟩)
  | fail)
   (refine hpan _ _ ⟨{ n := _, env := [], obs := [(i, pOb l q')], next := nx }, (Wk.cut rfl (by simp [hn]) (by simp [wkO, zaa, getK, zab, zac, Ob.under, D.under, zad, zaf, hi, hne, zab, zac, zaa, getK]) (by simp [wkU, zan, zaa, getK, D.under, hi, hne, zab, zac, zaa, getK]) (by simp [wkE, zan, zaa, getK, hi, hne, zab, zac, zaa, getK])), by simp [hn], ?_⟩; try simp)
   exact PPost.zaF (by simp [PR.bind, *])
  | ok n q0 =>
   have hn1 := fun nx' h => zdy (hn1 nx' h) hr0
   (refine RetX.of_bodyW Tryz.func85 rfl (by simp) fun Γ hn hpan => ?_); simp only [entry, ziC, ziN, maC, maN, oA, Tryz.ntmps85]
   repeat' (first
  | ((first | refine zag ?_ | refine zaj ?_ | refine zah ?_ | refine zai ?_ | fail); simp [hne, del])
  | (refine zaq ?_; simp only [zap])
  | (refine CallP.ok1 (hh1 _ (by first | omega | simp <;> omega | fail)) (by first | (simp [hne, del, zaa, getK, zab, zac]; done) | fail) (by rfl) (by rfl) ?_; (try simp [hne, del]))
  | (refine CallP.ok1 (hn1 _ (by first | omega | simp <;> omega | fail)) (by first | (simp [hne, del, zaa, getK, zab, zac]; done) | fail) (by rfl) (by rfl) ?_; (try simp [hne, del]))
  | fail)
   refine EndW.norm ?_;simp [St.norm, zaD, zaT, zaV, zaW, hne, nAA]
   (refine EndW.here ?_; (first | (refine EndOK.fin (.inr rfl) ?_) | (refine EndOK.fin (.inl rfl) ?_)); simp [zaA, zae, Tryz.results85, hne, hi]; refine FinOK.cut [(i, pOb l q0)] (nx) (by simp [zaa, getK, zab, zac, Ob.under, D.under, zad, zaf, hne, hi] <;> omega) (by simp [D.under]) (by simp [hn]) ?_; try simp)
   exact PPost.zcy rfl (by simp [Exp.row_eq]) rfl
theorem zcI {l : List Tok} (hl : TokOK l) {p q : Nat} {w : List UInt8} {e : Exp} (h : zdt l p w = .ok e q) (hp : p < l.length) : p <= q /\ q < l.length := by
 unfold zdt at h;split at h
 ·rename_i hb;have := zdL hl h (zaO hl hb);exact ⟨by omega, this.2⟩
 ·cases h; exact ⟨by omega, hp⟩
theorem _root_.Go.VL.CallP.pp {P : Program} {Γ : Ctx} {s : St} {k : St -> Prop} {dst : Option Tmp} {fop : Operand} {args : List Operand} {f caps} {ds : List D} {α : Type} {l : List Tok} {i : Nat} {ob : Ob} {val : α -> D} {r : PR α}
  (hret : RetX P f ds [(i, ob)] s.next (PPost l i s.next val r)) (hj : getK s.obs i = some ob) (hf : zaE (opd s fop) = some (f, caps)) (hc : zak P f = true) (hds : args.map (opd s) ++ caps = ds) (hp : zaN dst s)
  (hk : ∀ a q, r = .ok a q -> k (({ s with obs := del s.obs i ++ [(i, pOb l q)], next := s.next } : St).put dst (val a)))
  (hx : ∀ pos e q, r = .stop pos e -> ∃ s2, Wk Γ { s with obs := del s.obs i ++ [(i, pOb l q)], next := s.next } s2 /\ Γ.pan (chP pos e) s2) : CallP P Γ fop args dst s k :=
 CallP.x1 hret hj hf hc hds hp (fun d o1 nx' _ h => by
  cases r with
  | ok a q => obtain ⟨h1, h2, h3⟩ := h; cases h1; subst h2; subst h3; exact hk a q rfl
  | stop pos e => obtain ⟨h1, _⟩ := h; cases h1) (fun ch o1 nx' _ h => by
  cases r with
  | ok a q => obtain ⟨h1, _⟩ := h; cases h1
  | stop pos e => obtain ⟨h1, ⟨ob', ⟨q, rfl⟩, h2⟩, h3⟩ := h; cases h1; subst h2; subst h3; exact hx pos e q rfl)
abbrev kbD (x : Int × Bool) : D := .tup [.u (.int .i64 x.1), .u (.bool x.2)]
theorem zp1 (l : List Tok) (p : Nat) (i nx : Nat) (hi : i < nx) (hp : p < l.length) (hl : TokOK l) :
  RetX Tryz.prog 78 [.ptr i 0] [(i, pOb l p)] nx (PPost l i nx kbD (zhu l p)) := by
 have hne := zaw hi;have hll := hl.len;generalize hR : zhu l p = R;rw [zhu] at hR
 (refine RetX.of_bodyW Tryz.func78 rfl (by simp) fun Γ hn hpan => ?_); simp only [entry, ziC, ziN, maC, maN, oA, Tryz.ntmps78]
 repeat' (first
  | ((first | refine zag ?_ | refine zaj ?_ | refine zah ?_ | fail); simp [hne])
  | (refine zav (by first | rfl | fail) ?_; simp [hne, frzN, frz1, zaz, zay, St.frz, St.frzS, frzS, fv, zaH, za2, za4, zaG, zau, zam, del, frz, za5])
  | fail)
 (refine CallP.pp (zfK hl [99, 105, 114, 99, 108, 101] (q := p) (i := i) (by first | omega | simp <;> omega | fail) hp) (by first | (simp [hi, hne, nAA, zaa, getK, zab, zac]; done) | fail) (by rfl) (by first | assumption | (simp; done) | fail) (by rfl) (by simp) (fun v1 q1 h1 => ?_) (fun pos e q' h1 => ⟨_, Wk.refl _, ?_⟩); rotate_left 1; (focus (rw [h1, PR.zax] at hR; (refine hpan _ _ ⟨{ n := _, env := [], obs := [(i, pOb l q')], next := nx }, (Wk.cut rfl (by simp [hn]) (by simp [wkO, zaa, getK, zab, zac, Ob.under, D.under, zad, zaf, hi, hne, nAA, zab, zac, zaa, getK]) (by simp [wkU, zan, zaa, getK, D.under, hi, hne, nAA, zab, zac, zaa, getK]) (by simp [wkE, zan, zaa, getK, hi, hne, nAA, zab, zac, zaa, getK])), by simp [hn], ?_⟩; try simp); exact PPost.zaF hR.symm)); rw [h1, PR.zaB] at hR; (try simp [hi, hne, nAA]))
 obtain ⟨_, g1⟩ := zaJ hl _ h1 hp;have hh1 := fun nx' (h : nx <= nx') => zbj l q1 [114, 111, 116, 97, 116, 105, 110, 103] i nx' (by omega) g1 hl.len;have hh2 := fun nx' (h : nx <= nx') => zbj l q1 [115, 97, 118, 105, 110, 103] i nx' (by omega) g1 hl.len;by_cases c1 : isB l q1 [114, 111, 116, 97, 116, 105, 110, 103] = true
 ·have g2 := zaO hl c1;rw [if_pos c1] at hR;simp only [c1, if_true] at hh1
  repeat' (first
  | ((first | refine zag ?_ | refine zaj ?_ | refine zah ?_ | refine zai ?_ | fail); simp [hne, del, nAA])
  | (refine CallP.ok1 (hh1 _ (by first | omega | simp <;> omega | fail)) (by first | (simp [hne, del, nAA, zaa, getK, zab, zac]; done) | fail) (by rfl) (by rfl) ?_; (try simp [hne, del, nAA]))
  | (refine zav (by first | rfl | fail) ?_; simp [hne, del, nAA, frzN, frz1, zaz, zay, St.frz, St.frzS, frzS, fv, zaH, za2, za4, zaG, zau, zam, del, frz, za5])
  | fail)
  (refine CallP.pp (zfK hl [59] (q := q1 + 1) (i := i) (by first | omega | simp <;> omega | fail) g2) (by first | (simp [hi, hne, nAA, zaa, getK, zab, zac]; done) | fail) (by rfl) (by first | assumption | (simp; done) | fail) (by rfl) (by simp) (fun v2 q2 h2 => ?_) (fun pos e q' h2 => ⟨_, Wk.refl _, ?_⟩); rotate_left 1; (focus (rw [h2, PR.zax] at hR; (refine hpan _ _ ⟨{ n := _, env := [], obs := [(i, pOb l q')], next := nx }, (Wk.cut rfl (by simp [hn]) (by simp [wkO, zaa, getK, zab, zac, Ob.under, D.under, zad, zaf, hi, hne, nAA, zab, zac, zaa, getK]) (by simp [wkU, zan, zaa, getK, D.under, hi, hne, nAA, zab, zac, zaa, getK]) (by simp [wkE, zan, zaa, getK, hi, hne, nAA, zab, zac, zaa, getK])), by simp [hn], ?_⟩; try simp); exact PPost.zaF hR.symm)); rw [h2, PR.zaB] at hR; (try simp [hi, hne, nAA]))
  repeat' (first
  | ((first | refine zag ?_ | refine zaj ?_ | refine zah ?_ | fail); simp [hne, del, nAA])
  | (refine zaq ?_; simp only [zap])
  | fail)
  (refine EndW.here ?_; (first | (refine EndOK.fin (.inr rfl) ?_) | (refine EndOK.fin (.inl rfl) ?_)); simp [zaA, zae, Tryz.results78, hne, hi]; refine FinOK.cut [(i, pOb l q2)] (nx) (by simp [zaa, getK, zab, zac, Ob.under, D.under, zad, zaf, hne, hi] <;> omega) (by simp [D.under]) (by simp [hn]) ?_; try simp)
  exact PPost.zcy hR.symm rfl rfl
 ·rw [if_neg c1] at hR;simp only [c1, Bool.false_eq_true, if_false] at hh1;by_cases c2 : isB l q1 [115, 97, 118, 105, 110, 103] = true
  ·have g2 := zaO hl c2;rw [if_pos c2] at hR;simp only [c2, if_true] at hh2
   repeat' (first
  | ((first | refine zag ?_ | refine zaj ?_ | refine zah ?_ | refine zai ?_ | fail); simp [hne, del, nAA])
  | (refine CallP.ok1 (hh1 _ (by first | omega | simp <;> omega | fail)) (by first | (simp [hne, del, nAA, zaa, getK, zab, zac]; done) | fail) (by rfl) (by rfl) ?_; (try simp [hne, del, nAA]))
  | (refine CallP.ok1 (hh2 _ (by first | omega | simp <;> omega | fail)) (by first | (simp [hne, del, nAA, zaa, getK, zab, zac]; done) | fail) (by rfl) (by rfl) ?_; (try simp [hne, del, nAA]))
  | (refine zav (by first | rfl | fail) ?_; simp [hne, del, nAA, frzN, frz1, zaz, zay, St.frz, St.frzS, frzS, fv, zaH, za2, za4, zaG, zau, zam, del, frz, za5])
  | fail)
   (refine CallP.pp (zfK hl [59] (q := q1 + 1) (i := i) (by first | omega | simp <;> omega | fail) g2) (by first | (simp [hi, hne, nAA, zaa, getK, zab, zac]; done) | fail) (by rfl) (by first | assumption | (simp; done) | fail) (by rfl) (by simp) (fun v2 q2 h2 => ?_) (fun pos e q' h2 => ⟨_, Wk.refl _, ?_⟩); rotate_left 1; (focus (rw [h2, PR.zax] at hR; (refine hpan _ _ ⟨{ n := _, env := [], obs := [(i, pOb l q')], next := nx }, (Wk.cut rfl (by simp [hn]) (by simp [wkO, zaa, getK, zab, zac, Ob.under, D.under, zad, zaf, hi, hne, nAA, zab, zac, zaa, getK]) (by simp [wkU, zan, zaa, getK, D.under, hi, hne, nAA, zab, zac, zaa, getK]) (by simp [wkE, zan, zaa, getK, hi, hne, nAA, zab, zac, zaa, getK])), by simp [hn], ?_⟩; try simp); exact PPost.zaF hR.symm)); rw [h2, PR.zaB] at hR; (try simp [hi, hne, nAA]))
   repeat' (first
  | ((first | refine zag ?_ | refine zaj ?_ | refine zah ?_ | fail); simp [hne, del, nAA])
  | (refine zaq ?_; simp only [zap])
  | fail)
   (refine EndW.here ?_; (first | (refine EndOK.fin (.inr rfl) ?_) | (refine EndOK.fin (.inl rfl) ?_)); simp [zaA, zae, Tryz.results78, hne, hi]; refine FinOK.cut [(i, pOb l q2)] (nx) (by simp [zaa, getK, zab, zac, Ob.under, D.under, zad, zaf, hne, hi] <;> omega) (by simp [D.under]) (by simp [hn]) ?_; try simp)
   exact PPost.zcy hR.symm rfl rfl
  ·rw [if_neg c2] at hR;simp only [c2, Bool.false_eq_true, if_false] at hh2
   repeat' (first
  | ((first | refine zag ?_ | refine zaj ?_ | refine zah ?_ | refine zai ?_ | fail); simp [hne, del, nAA])
  | (refine zao ?_; simp only [zap])
  | (refine CallP.ok1 (hh1 _ (by first | omega | simp <;> omega | fail)) (by first | (simp [hne, del, nAA, zaa, getK, zab, zac]; done) | fail) (by rfl) (by rfl) ?_; (try simp [hne, del, nAA]))
  | (refine CallP.ok1 (hh2 _ (by first | omega | simp <;> omega | fail)) (by first | (simp [hne, del, nAA, zaa, getK, zab, zac]; done) | fail) (by rfl) (by rfl) ?_; (try simp [hne, del, nAA]))
  | (refine zav (by first | rfl | fail) ?_; simp [hne, del, nAA, frzN, frz1, zaz, zay, St.frz, St.frzS, frzS, fv, zaH, za2, za4, zaG, zau, zam, del, frz, za5])
  | fail)
   (refine CallP.pp (zfK hl [98, 105, 100, 100, 105, 110, 103] (q := q1) (i := i) (by first | omega | simp <;> omega | fail) g1) (by first | (simp [hi, hne, nAA, zaa, getK, zab, zac]; done) | fail) (by rfl) (by first | assumption | (simp; done) | fail) (by rfl) (by simp) (fun v2 q2 h2 => ?_) (fun pos e q' h2 => ⟨_, Wk.refl _, ?_⟩); rotate_left 1; (focus (rw [h2, PR.zax] at hR; (refine hpan _ _ ⟨{ n := _, env := [], obs := [(i, pOb l q')], next := nx }, (Wk.cut rfl (by simp [hn]) (by simp [wkO, zaa, getK, zab, zac, Ob.under, D.under, zad, zaf, hi, hne, nAA, zab, zac, zaa, getK]) (by simp [wkU, zan, zaa, getK, D.under, hi, hne, nAA, zab, zac, zaa, getK]) (by simp [wkE, zan, zaa, getK, hi, hne, nAA, zab, zac, zaa, getK])), by simp [hn], ?_⟩; try simp); exact PPost.zaF hR.symm)); rw [h2, PR.zaB] at hR; (try simp [hi, hne, nAA]))
   obtain ⟨_, g2⟩ := zaJ hl _ h2 g1;have hh3 := fun nx' (h : nx <= nx') => zbj l q2 [115, 101, 97, 108, 101, 100] i nx' (by omega) g2 hl.len;by_cases c3 : isB l q2 [115, 101, 97, 108, 101, 100] = true
   ·have g3 := zaO hl c3;rw [if_pos c3] at hR;simp only [c3, if_true] at hh3
    repeat' (first
  | ((first | refine zag ?_ | refine zaj ?_ | refine zah ?_ | fail); simp [hne, del, nAA])
  | (refine CallP.ok1 (hh3 _ (by first | omega | simp <;> omega | fail)) (by first | (simp [hne, del, nAA, zaa, getK, zab, zac]; done) | fail) (by rfl) (by rfl) ?_; (try simp [hne, del, nAA]))
  | (refine zav (by first | rfl | fail) ?_; simp [hne, del, nAA, frzN, frz1, zaz, zay, St.frz, St.frzS, frzS, fv, zaH, za2, za4, zaG, zau, zam, del, frz, za5])
  | fail)
    (refine CallP.pp (zfK hl [59] (q := q2 + 1) (i := i) (by first | omega | simp <;> omega | fail) g3) (by first | (simp [hi, hne, nAA, zaa, getK, zab, zac]; done) | fail) (by rfl) (by first | assumption | (simp; done) | fail) (by rfl) (by simp) (fun v3 q3 h3 => ?_) (fun pos e q' h3 => ⟨_, Wk.refl _, ?_⟩); rotate_left 1; (focus (rw [h3, PR.zax] at hR; (refine hpan _ _ ⟨{ n := _, env := [], obs := [(i, pOb l q')], next := nx }, (Wk.cut rfl (by simp [hn]) (by simp [wkO, zaa, getK, zab, zac, Ob.under, D.under, zad, zaf, hi, hne, nAA, zab, zac, zaa, getK]) (by simp [wkU, zan, zaa, getK, D.under, hi, hne, nAA, zab, zac, zaa, getK]) (by simp [wkE, zan, zaa, getK, hi, hne, nAA, zab, zac, zaa, getK])), by simp [hn], ?_⟩; try simp); exact PPost.zaF hR.symm)); rw [h3, PR.zaB] at hR; (try simp [hi, hne, nAA]))
    repeat' (first
  | ((first | refine zag ?_ | refine zaj ?_ | refine zah ?_ | fail); simp [hne, del, nAA])
  | (refine zaq ?_; simp only [zap])
  | fail)
    (refine EndW.here ?_; (first | (refine EndOK.fin (.inr rfl) ?_) | (refine EndOK.fin (.inl rfl) ?_)); simp [zaA, zae, Tryz.results78, hne, hi]; refine FinOK.cut [(i, pOb l q3)] (nx) (by simp [zaa, getK, zab, zac, Ob.under, D.under, zad, zaf, hne, hi] <;> omega) (by simp [D.under]) (by simp [hn]) ?_; try simp)
    exact PPost.zcy hR.symm rfl rfl
   ·rw [if_neg c3] at hR;simp only [c3, Bool.false_eq_true, if_false] at hh3
    repeat' (first
  | ((first | refine zag ?_ | refine zaj ?_ | refine zah ?_ | fail); simp [hne, del, nAA])
  | (refine CallP.ok1 (hh3 _ (by first | omega | simp <;> omega | fail)) (by first | (simp [hne, del, nAA, zaa, getK, zab, zac]; done) | fail) (by rfl) (by rfl) ?_; (try simp [hne, del, nAA]))
  | (refine zav (by first | rfl | fail) ?_; simp [hne, del, nAA, frzN, frz1, zaz, zay, St.frz, St.frzS, frzS, fv, zaH, za2, za4, zaG, zau, zam, del, frz, za5])
  | fail)
    (refine CallP.pp (zfK hl [59] (q := q2) (i := i) (by first | omega | simp <;> omega | fail) g2) (by first | (simp [hi, hne, nAA, zaa, getK, zab, zac]; done) | fail) (by rfl) (by first | assumption | (simp; done) | fail) (by rfl) (by simp) (fun v3 q3 h3 => ?_) (fun pos e q' h3 => ⟨_, Wk.refl _, ?_⟩); rotate_left 1; (focus (rw [h3, PR.zax] at hR; (refine hpan _ _ ⟨{ n := _, env := [], obs := [(i, pOb l q')], next := nx }, (Wk.cut rfl (by simp [hn]) (by simp [wkO, zaa, getK, zab, zac, Ob.under, D.under, zad, zaf, hi, hne, nAA, zab, zac, zaa, getK]) (by simp [wkU, zan, zaa, getK, D.under, hi, hne, nAA, zab, zac, zaa, getK]) (by simp [wkE, zan, zaa, getK, hi, hne, nAA, zab, zac, zaa, getK])), by simp [hn], ?_⟩; try simp); exact PPost.zaF hR.symm)); rw [h3, PR.zaB] at hR; (try simp [hi, hne, nAA]))
    repeat' (first
  | ((first | refine zag ?_ | refine zaj ?_ | refine zah ?_ | fail); simp [hne, del, nAA])
  | (refine zaq ?_; simp only [zap])
  | fail)
    (refine EndW.here ?_; (first | (refine EndOK.fin (.inr rfl) ?_) | (refine EndOK.fin (.inl rfl) ?_)); simp [zaA, zae, Tryz.results78, hne, hi]; refine FinOK.cut [(i, pOb l q3)] (nx) (by simp [zaa, getK, zab, zac, Ob.under, D.under, zad, zaf, hne, hi] <;> omega) (by simp [D.under]) (by simp [hn]) ?_; try simp)
    exact PPost.zcy hR.symm rfl rfl
theorem zl6 {l : List Tok} (hl : TokOK l) {p q : Nat} {x : Int × Bool} (h : zhu l p = .ok x q) (hp : p < l.length) : p <= q /\ q < l.length := by
 unfold zhu at h;obtain ⟨_, r1, h1, h⟩ := PR.zaC h;have g1 := zaJ hl _ h1 hp;split at h
 ·rename_i hb;obtain ⟨_, r2, h2, h⟩ := PR.zaC h;have g2 := zaJ hl _ h2 (zaO hl hb);cases h;exact ⟨by omega, g2.2⟩
 ·split at h
  ·rename_i hb;obtain ⟨_, r2, h2, h⟩ := PR.zaC h;have g2 := zaJ hl _ h2 (zaO hl hb);cases h;exact ⟨by omega, g2.2⟩
  ·obtain ⟨_, r2, h2, h⟩ := PR.zaC h;have g2 := zaJ hl _ h2 g1.2;split at h
   ·rename_i hb;obtain ⟨_, r3, h3, h⟩ := PR.zaC h;have g3 := zaJ hl _ h3 (zaO hl hb);cases h;exact ⟨by omega, g3.2⟩
   ·obtain ⟨_, r3, h3, h⟩ := PR.zaC h;have g3 := zaJ hl _ h3 g2.2;cases h;exact ⟨by omega, g3.2⟩
theorem zgr : Fun Tryz.prog 60 [] (· = .u (.sl (ordersW.map fun w => [.str w]))) := by
 simp only [ordersW, List.map_cons, List.map_nil]
 (refine Fun.of_bodyW Tryz.func60 rfl (by simp) fun Γ hn => ?_); simp only [entry, ziC, ziN, maC, maN, oA, Tryz.ntmps60]
 repeat' (first
  | ((first | refine zag ?_ | refine zaj ?_ | refine zah ?_ | fail); simp [zck, zcb])
  | (refine zaq ?_; simp only [zap])
  | fail)
 (refine EndW.frzN 1 ?_; simp [frzN, frz1, zaz, zay, St.frz, St.frzS, frzS, fv, zaH, za2, za4, zaG, zau, zam, del, frz, za5])
 refine EndW.here ?_
 (refine EndOK.val (.inr rfl) ?_; simp [zaA, zae, zar, Tryz.results60])
def atW (l : List Tok) (q : Nat) (ws : List W8) : Option Nat := ws.findIdx? fun w => isB l q w
theorem znf (l : List Tok) (q : Nat) (ws : List W8) (i nx : Nat) (hi : i < nx) (hq : q < l.length) (hl : TokOK l) :
  RetX Tryz.prog 129 [.u (.sl (ws.map fun w => [.str w])), .bnd (.func 127) [.ptr i 0]] [(i, pOb l q)] nx
   (fun r o n => r = .val (match atW l q ws with | some j => zi0 j | none => zi0 (-1)) /\ o = [(i, pOb l (if (atW l q ws).isSome then q + 1 else q))] /\ n = nx) := by
 have hne := zaw hi;generalize hA : atW l q ws = A
 (refine RetX.of_bodyW Tryz.func129 rfl (by simp) fun Γ hn hpan => ?_); simp only [entry, ziC, ziN, maC, maN, oA, Tryz.ntmps129]
 refine zji (x := 0) rfl fun hll => ?_;simp at hll
 repeat' (first
  | ((first | refine zag ?_ | refine zaj ?_ | refine zah ?_ | refine zat ?_ | fail); simp)
  | fail)
 refine zcT (α := { j : Nat // j <= ws.length /\ ∀ w ∈ ws.take j, isB l q w = false }) [0, 1, 7] (fun x => [(8, .u (.int .i64 x.1))]) (fun x => [(i, pOb l q)]) nx (fun x => ws.length - x.1) ⟨0, by omega, by simp⟩ ?_ ?_
 ·exact (Wk.cut rfl (by simp [hn, St.lp]) (by simp [wkO, St.lp, zaa, getK, Ob.under, D.under, zad, zaf, hi]) (by simp [wkU, St.lp, zan, zaa, getK, D.under, hi]) (by simp [wkE, St.lp, zan, zaa, getK, hi] <;> (try (intros; simp_all; done)) <;> (try (intros; omega)) <;> (try grind)))
 rintro ⟨j, h1, h2⟩;simp [St.lp, St.only, zan, zaa, getK];rcases hx : ws[j]? with _ | w
 ·have hge : ws.length <= j := by simpa using hx
  rw [List.take_of_length_le hge] at h2;have hn0 : atW l q ws = none := by
   unfold atW;rw [List.findIdx?_eq_none_iff];exact h2
  rw [hn0] at hA;subst hA
  repeat' (first
  | ((first | refine zag ?_ | refine zaj ?_ | fail); simp [hx])
  | (refine ⟨by omega, ?_⟩)
  | (refine zah ?_; simp [hx])
  | (refine zaq ?_; simp only [zap])
  | (refine za9 ?_; simp [zap])
  | (intro hc <;> (try (exfalso; omega)))
  | fail)
  (refine EndW.here ?_; (first | (refine EndOK.fin (.inr rfl) ?_) | (refine EndOK.fin (.inl rfl) ?_)); simp [zaA, zae, Tryz.results129]; refine FinOK.here (by simp) ?_; try simp)
 ·have hlt : j < ws.length := (lGE.1 hx).1;have hh := zbj l q w i nx hi hq hl.len;cases hb : isB l q w with
  | false =>
   rw [hb, if_neg (by simp)] at hh
   repeat' (first
  | ((first | refine zag ?_ | refine zaj ?_ | refine zah ?_ | fail); simp [hx])
  | (refine zao ?_; simp only [zap])
  | (refine ⟨?_, by omega⟩)
  | (intro hc <;> (try (exfalso; omega)))
  | fail)
   refine CallP.bok hh (by simp [zaa, getK]) rfl (by first | assumption | simp) rfl (by simp) ?_
   repeat' (first
  | ((first | refine zag ?_ | refine zaj ?_ | fail); simp [hx])
  | (refine ⟨by omega, ?_⟩)
  | ((first | refine zai ?_ | refine zas ?_ | fail); simp [hx])
  | (refine zao ?_; simp only [zap])
  | fail)
   refine LoopW.next ⟨j + 1, by omega, zbv hx h2 hb⟩ (by simp; omega) ?_
   exact (Wk.cut rfl (by simp [hn, St.lp]) (by simp [wkO, St.lp, zaa, getK, Ob.under, D.under, zad, zaf, hi, zab, zac, zaa, getK]) (by simp [wkU, St.lp, zan, zaa, getK, D.under, hi, zab, zac, zaa, getK]) (by simp [wkE, St.lp, zan, zaa, getK, hi, zab, zac, zaa, getK] <;> (try (intros; simp_all; done)) <;> (try (intros; omega)) <;> (try grind)))
  | true =>
   rw [hb, if_pos rfl] at hh;have hn0 : atW l q ws = some j := by
    unfold atW;rw [List.findIdx?_eq_some_iff_getElem];obtain ⟨h3, h4⟩ := lGE.1 hx;refine ⟨h3, by rw [h4]; exact hb, fun k hk => ?_⟩;have := h2 ws[k] (by rw [List.mem_take_iff_getElem]; exact ⟨k, by omega, rfl⟩);simp [this]
   rw [hn0] at hA;subst hA
   repeat' (first
  | ((first | refine zag ?_ | refine zaj ?_ | refine zah ?_ | fail); simp [hx])
  | (refine zao ?_; simp only [zap])
  | (refine ⟨?_, by omega⟩)
  | (intro hc <;> (try (exfalso; omega)))
  | fail)
   refine CallP.bok hh (by simp [zaa, getK]) rfl (by first | assumption | simp) rfl (by simp) ?_
   repeat' (first
  | ((first | refine zag ?_ | refine zaj ?_ | refine zah ?_ | refine zai ?_ | fail); simp [hx])
  | (refine zaq ?_; simp only [zap])
  | fail)
   (refine EndW.here ?_; (first | (refine EndOK.fin (.inr rfl) ?_) | (refine EndOK.fin (.inl rfl) ?_)); simp [zaA, zae, Tryz.results129]; refine FinOK.here (by simp) ?_; try simp)
theorem zoh (l : List Tok) (p : Nat) (i nx : Nat) (hi : i < nx) (hp : p < l.length) (hl : TokOK l) :
  RetX Tryz.prog 81 [.ptr i 0] [(i, pOb l p)] nx (PPost l i nx zi0 (ze3 l p)) := by
 have hne := zaw hi;have hll := hl.len;have hor := zgr;generalize hR : ze3 l p = R;rw [ze3] at hR;have hh1 := fun nx' (h : nx <= nx') => zbj l p [111, 114, 100, 101, 114] i nx' (by omega) hp hl.len;by_cases c1 : isB l p [111, 114, 100, 101, 114] = true
 ·have g1 := zaO hl c1;rw [if_pos c1] at hR;simp only [c1, if_true] at hh1;have hix := fun nx' (h : nx <= nx') => znf l (p + 1) ordersW i nx' (by omega) g1 hl;have hat : atW l (p + 1) ordersW = ordersW.findIdx? fun w => isB l (p + 1) w := rfl;rw [<- hat] at hR;obtain ⟨t, ht⟩ : ∃ t, l[p + 1]? = some t := ⟨_, List.getElem?_eq_getElem g1⟩;have hpa : zbL l (p + 1) = t.pos := by unfold zbL; rw [ht]
  rw [hpa] at hR;cases hj : atW l (p + 1) ordersW with
  | none =>
   have hc2 := fun e nx' (h : nx <= nx') => zcS l (p + 1) t e i nx' (by omega) ht hl.len;rw [hj] at hR hix;simp only [Option.isSome_none, Bool.false_eq_true, if_false] at hR hix
   (refine RetX.of_bodyW Tryz.func81 rfl (by simp) fun Γ hn hpan => ?_); simp only [entry, ziC, ziN, maC, maN, oA, Tryz.ntmps81]
   repeat' (first
  | ((first | refine zag ?_ | refine zaj ?_ | refine zah ?_ | refine zai ?_ | fail); simp [hne, del, nAA])
  | (refine zao ?_; simp only [zap])
  | (refine CallP.fE (hor) (by first | rfl | fail) (by first | simp [hne, del, nAA] <;> rfl | fail) ?_; (try simp [hne, del, nAA]))
  | (refine CallP.ok1 (hh1 _ (by first | omega | simp <;> omega | fail)) (by first | (simp [hne, del, nAA, zaa, getK, zab, zac]; done) | fail) (by rfl) (by rfl) ?_; (try simp [hne, del, nAA]))
  | (refine CallP.ok1 (hix _ (by first | omega | simp <;> omega | fail)) (by first | (simp [hne, del, nAA, zaa, getK, zab, zac]; done) | fail) (by rfl) (by rfl) ?_; (try simp [hne, del, nAA]))
  | (refine CallP.zeW (hc2 _ _ (by first | omega | simp <;> omega | fail)) (by first | (simp [hne, del, nAA, zaa, getK, zab, zac]; done) | fail) (by rfl) (by first | assumption | (simp; done) | fail) (by rfl) (by simp) ?_; rintro ob' ⟨q', rfl⟩; refine ⟨_, Wk.refl _, ?_⟩)
  | fail)
   (refine hpan _ _ ⟨{ n := _, env := [], obs := [(i, pOb l q')], next := nx }, (Wk.cut rfl (by simp [hn]) (by simp [wkO, zaa, getK, zab, zac, Ob.under, D.under, zad, zaf, hi, hne, zab, zac, zaa, getK]) (by simp [wkU, zan, zaa, getK, D.under, hi, hne, zab, zac, zaa, getK]) (by simp [wkE, zan, zaa, getK, hi, hne, zab, zac, zaa, getK])), by simp [hn], ?_⟩; try simp)
   exact PPost.zaF hR.symm
  | some j =>
   have g2 : p + 1 + 1 < l.length := by
    unfold atW at hj;rw [List.findIdx?_eq_some_iff_getElem] at hj;obtain ⟨_, hb, _⟩ := hj;exact zaO hl hb
   have hj0 : (0 : Int) <= (j : Int) := by omega
   have hc1 := fun e nx' (h : nx <= nx') => zd0 l (p + 1 + 1) e i nx' (by omega);rw [hj] at hR hix;simp only [Option.isSome_some, if_true] at hR hix
   (refine RetX.of_bodyW Tryz.func81 rfl (by simp) fun Γ hn hpan => ?_); simp only [entry, ziC, ziN, maC, maN, oA, Tryz.ntmps81]
   repeat' (first
  | ((first | refine zag ?_ | refine zaj ?_ | refine zah ?_ | refine zai ?_ | fail); simp [hne, del, nAA, hj0])
  | (refine zao ?_; simp only [zap])
  | (refine CallP.fE (hor) (by first | rfl | fail) (by first | simp [hne, del, nAA, hj0] <;> rfl | fail) ?_; (try simp [hne, del, nAA, hj0]))
  | (refine CallP.ok1 (hh1 _ (by first | omega | simp <;> omega | fail)) (by first | (simp [hne, del, nAA, hj0, zaa, getK, zab, zac]; done) | fail) (by rfl) (by rfl) ?_; (try simp [hne, del, nAA, hj0]))
  | (refine CallP.ok1 (hix _ (by first | omega | simp <;> omega | fail)) (by first | (simp [hne, del, nAA, hj0, zaa, getK, zab, zac]; done) | fail) (by rfl) (by rfl) ?_; (try simp [hne, del, nAA, hj0]))
  | (refine CallP.ok1 (hc1 _ _ (by first | omega | simp <;> omega | fail)) (by first | (simp [hne, del, nAA, hj0, zaa, getK, zab, zac]; done) | fail) (by rfl) (by rfl) ?_; (try simp [hne, del, nAA, hj0]))
  | (refine zav (by first | rfl | fail) ?_; simp [hne, del, nAA, hj0, frzN, frz1, zaz, zay, St.frz, St.frzS, frzS, fv, zaH, za2, za4, zaG, zau, zam, del, frz, za5])
  | fail)
   (refine CallP.pp (zfK hl [59] (q := p + 1 + 1) (i := i) (by first | omega | simp <;> omega | fail) g2) (by first | (simp [hi, hne, nAA, zaa, getK, zab, zac]; done) | fail) (by rfl) (by first | assumption | (simp; done) | fail) (by rfl) (by simp) (fun v2 q2 h2 => ?_) (fun pos e q' h2 => ⟨_, Wk.refl _, ?_⟩); rotate_left 1; (focus (rw [h2, PR.zax] at hR; (refine hpan _ _ ⟨{ n := _, env := [], obs := [(i, pOb l q')], next := nx }, (Wk.cut rfl (by simp [hn]) (by simp [wkO, zaa, getK, zab, zac, Ob.under, D.under, zad, zaf, hi, hne, nAA, zab, zac, zaa, getK]) (by simp [wkU, zan, zaa, getK, D.under, hi, hne, nAA, zab, zac, zaa, getK]) (by simp [wkE, zan, zaa, getK, hi, hne, nAA, zab, zac, zaa, getK])), by simp [hn], ?_⟩; try simp); exact PPost.zaF hR.symm)); rw [h2, PR.zaB] at hR; (try simp [hi, hne, nAA]))
   repeat' (first
  | ((first | refine zag ?_ | refine zaj ?_ | refine zah ?_ | fail); simp [hne, del])
  | (refine zaq ?_; simp only [zap])
  | fail)
   (refine EndW.here ?_; (first | (refine EndOK.fin (.inr rfl) ?_) | (refine EndOK.fin (.inl rfl) ?_)); simp [zaA, zae, Tryz.results81, hne, hi]; refine FinOK.cut [(i, pOb l q2)] (nx) (by simp [zaa, getK, zab, zac, Ob.under, D.under, zad, zaf, hne, hi] <;> omega) (by simp [D.under]) (by simp [hn]) ?_; try simp)
   exact PPost.zcy hR.symm rfl rfl
 ·rw [if_neg c1] at hR;simp only [c1, Bool.false_eq_true, if_false] at hh1
  (refine RetX.of_bodyW Tryz.func81 rfl (by simp) fun Γ hn hpan => ?_); simp only [entry, ziC, ziN, maC, maN, oA, Tryz.ntmps81]
  repeat' (first
  | ((first | refine zag ?_ | refine zaj ?_ | refine zah ?_ | refine zai ?_ | fail); simp [hne, del, nAA])
  | (refine zaq ?_; simp only [zap])
  | (refine CallP.ok1 (hh1 _ (by first | omega | simp <;> omega | fail)) (by first | (simp [hne, del, nAA, zaa, getK, zab, zac]; done) | fail) (by rfl) (by rfl) ?_; (try simp [hne, del, nAA]))
  | fail)
  (refine EndW.here ?_; (first | (refine EndOK.fin (.inr rfl) ?_) | (refine EndOK.fin (.inl rfl) ?_)); simp [zaA, zae, Tryz.results81, hne, hi]; refine FinOK.cut [(i, pOb l p)] (nx) (by simp [zaa, getK, zab, zac, Ob.under, D.under, zad, zaf, hne, hi] <;> omega) (by simp [D.under]) (by simp [hn]) ?_; try simp)
  exact PPost.zcy hR.symm rfl rfl
theorem zj5 {l : List Tok} (hl : TokOK l) {p q : Nat} {n : Int} (h : ze3 l p = .ok n q) (hp : p < l.length) : p <= q /\ q < l.length := by
 unfold ze3 at h;split at h
 ·split at h
  ·rename_i j hj;rw [List.findIdx?_eq_some_iff_getElem] at hj;obtain ⟨_, hb, _⟩ := hj;obtain ⟨_, r2, h2, h⟩ := PR.zaC h;have g2 := zaJ hl _ h2 (zaO hl hb);cases h;exact ⟨by omega, g2.2⟩
  ·cases h
 ·cases h; exact ⟨by omega, hp⟩
theorem zjD (x : Let) (s : W8) : Fun Tryz.prog 82 (zoM x :: [U.row [.str s] 0].map .u) (· = .u (.bool (decide (x.name = s)))) := by
 simp only [zoM, List.map_cons, List.map_nil]
 (refine Fun.of_body Tryz.func82 rfl (by simp) fun Γ hn => ?_); simp only [entry, ziC, ziN, maC, maN, oA, Tryz.ntmps82]
 repeat' (first
  | ((first | refine zag ?_ | refine zaj ?_ | refine zah ?_ | fail); simp)
  | (refine zaq ?_; simp only [zap])
  | fail)
 (refine EndOK.val (.inr rfl) ?_; simp [zaA, zae, zar, Tryz.results82])
theorem znO (lets : List Let) (s : W8) : Fun Tryz.prog 67 [.u (zfO lets), .fnc (.func 82) [.u (.row [.str s] 0)]]
  (· = .u (.bool (lets.any fun x => decide (x.name = s)))) :=
 zgd lets 82 [U.row [.str s] 0] _ (fun x _ => zjD x s) (by simp) (fun _ => rfl) (fun _ => rfl)
theorem znA (l : List Tok) (hl0 : 0 < l.length) (hl : TokOK l) (hl2 : l.length <= 2001) :
  RetX Tryz.prog 37 [.ptr 3 0] [(3, pOb l 0)] 4 (PPost l 3 4 byD (zql l)) := by
 have hi : 3 < 4 := by decide
 have hne := zaw hi;have hll := hl.len;have htE : True := trivial;generalize hR : zql l = R;rw [zql] at hR
 (refine RetX.of_bodyW Tryz.func37 rfl (by simp) fun Γ hn hpan => ?_); simp only [entry, ziC, ziN, maC, maN, oA, Tryz.ntmps37]
 repeat' (first
  | ((first | refine zag ?_ | refine zaj ?_ | refine zah ?_ | fail); simp [hne])
  | fail)
 (refine CallP.pp (zp1 l 0 3 _ (by first | omega | simp <;> omega | fail) hl0 hl) (by first | (simp [hi, hne, del, htE, zaa, getK, zab, zac]; done) | fail) (by rfl) (by first | assumption | (simp; done) | fail) (by rfl) (by simp) (fun kb q1 h1 => ?_) (fun pos e q' h1 => ⟨_, Wk.refl _, ?_⟩); rotate_left 1; (focus (rw [h1, PR.zax] at hR; (refine hpan _ _ ⟨{ n := _, env := [], obs := [(3, pOb l q')], next := 4 }, (Wk.cut rfl (by simp [hn]) (by simp [wkO, zaa, getK, zab, zac, Ob.under, D.under, zad, zaf, hi, hne, del, htE, zab, zac, zaa, getK]) (by simp [wkU, zan, zaa, getK, D.under, hi, hne, del, htE, zab, zac, zaa, getK]) (by simp [wkE, zan, zaa, getK, hi, hne, del, htE, zab, zac, zaa, getK])), by simp [hn], ?_⟩; try simp); exact PPost.zaF hR.symm)); rw [h1, PR.zaB] at hR; (try simp [hi, hne, del, htE]))
 obtain ⟨_, g1⟩ := zl6 hl h1 hl0;have hm := zeN l q1 [112, 101, 114, 105, 111, 100] g1 hl.len
 repeat' (first
  | ((first | refine zag ?_ | refine zaj ?_ | refine zah ?_ | fail); simp [hne, del])
  | (refine CallP.fE (hm) (by first | rfl | fail) (by first | simp [hne, del] <;> rfl | fail) ?_; (try simp [hne, del]))
  | fail)
 (refine CallP.pp (zlU l q1 [112, 101, 114, 105, 111, 100] 3 _ (by first | omega | simp <;> omega | fail) g1 hl) (by first | (simp [hi, hne, del, htE, zaa, getK, zab, zac]; done) | fail) (by rfl) (by first | assumption | (simp; done) | fail) (by rfl) (by simp) (fun u2 q2 h2 => ?_) (fun pos e q' h2 => ⟨_, Wk.refl _, ?_⟩); rotate_left 1; (focus (rw [h2, PR.zax] at hR; (refine hpan _ _ ⟨{ n := _, env := [], obs := [(3, pOb l q')], next := 4 }, (Wk.cut rfl (by simp [hn]) (by simp [wkO, zaa, getK, zab, zac, Ob.under, D.under, zad, zaf, hi, hne, del, htE, zab, zac, zaa, getK]) (by simp [wkU, zan, zaa, getK, D.under, hi, hne, del, htE, zab, zac, zaa, getK]) (by simp [wkE, zan, zaa, getK, hi, hne, del, htE, zab, zac, zaa, getK])), by simp [hn], ?_⟩; try simp); exact PPost.zaF hR.symm)); rw [h2, PR.zaB] at hR; (try simp [hi, hne, del, htE]))
 obtain ⟨rfl, _⟩ := zot h2
 repeat' (first
  | ((first | refine zag ?_ | refine zaj ?_ | refine zah ?_ | fail); simp [hne, del])
  | (refine zav (by first | rfl | fail) ?_; simp [hne, del, frzN, frz1, zaz, zay, St.frz, St.frzS, frzS, fv, zaH, za2, za4, zaG, zau, zam, del, frz, za5])
  | fail)
 (refine CallP.pp (zdW l q2 [112, 101, 114, 105, 111, 100] 1 1000 [[100, 97, 121, 115], [59]] 3 _ (by first | omega | simp <;> omega | fail) g1 hl (by simp)) (by first | (simp [hi, hne, del, htE, zaa, getK, zab, zac]; done) | fail) (by rfl) (by first | assumption | (simp; done) | fail) (by rfl) (by simp) (fun period q3 h3 => ?_) (fun pos e q' h3 => ⟨_, Wk.refl _, ?_⟩); rotate_left 1; (focus (rw [h3, PR.zax] at hR; (refine hpan _ _ ⟨{ n := _, env := [], obs := [(3, pOb l q')], next := 4 }, (Wk.cut rfl (by simp [hn]) (by simp [wkO, zaa, getK, zab, zac, Ob.under, D.under, zad, zaf, hi, hne, del, htE, zab, zac, zaa, getK]) (by simp [wkU, zan, zaa, getK, D.under, hi, hne, del, htE, zab, zac, zaa, getK]) (by simp [wkE, zan, zaa, getK, hi, hne, del, htE, zab, zac, zaa, getK])), by simp [hn], ?_⟩; try simp); exact PPost.zaF hR.symm)); rw [h3, PR.zaB] at hR; (try simp [hi, hne, del, htE]))
 obtain ⟨_, g3⟩ := zb0 hl h3 g1
 repeat' (first
  | ((first | refine zag ?_ | refine zaj ?_ | refine zah ?_ | fail); simp [hne, del])
  | fail)
 have hm := zeN l q3 [108, 97, 115, 116] g3 hl.len
 repeat' (first
  | (refine zag ?_; simp [hne, del])
  | (refine CallP.fE (hm) (by first | rfl | fail) (by first | simp [hne, del] <;> rfl | fail) ?_; (try simp [hne, del]))
  | fail)
 (refine CallP.pp (zlU l q3 [108, 97, 115, 116] 3 _ (by first | omega | simp <;> omega | fail) g3 hl) (by first | (simp [hi, hne, del, htE, zaa, getK, zab, zac]; done) | fail) (by rfl) (by first | assumption | (simp; done) | fail) (by rfl) (by simp) (fun u4 q4 h4 => ?_) (fun pos e q' h4 => ⟨_, Wk.refl _, ?_⟩); rotate_left 1; (focus (rw [h4, PR.zax] at hR; (refine hpan _ _ ⟨{ n := _, env := [], obs := [(3, pOb l q')], next := 4 }, (Wk.cut rfl (by simp [hn]) (by simp [wkO, zaa, getK, zab, zac, Ob.under, D.under, zad, zaf, hi, hne, del, htE, zab, zac, zaa, getK]) (by simp [wkU, zan, zaa, getK, D.under, hi, hne, del, htE, zab, zac, zaa, getK]) (by simp [wkE, zan, zaa, getK, hi, hne, del, htE, zab, zac, zaa, getK])), by simp [hn], ?_⟩; try simp); exact PPost.zaF hR.symm)); rw [h4, PR.zaB] at hR; (try simp [hi, hne, del, htE]))
 obtain ⟨rfl, _⟩ := zot h4
 repeat' (first
  | ((first | refine zag ?_ | refine zaj ?_ | refine zah ?_ | fail); simp [hne, del])
  | (refine zav (by first | rfl | fail) ?_; simp [hne, del, frzN, frz1, zaz, zay, St.frz, St.frzS, frzS, fv, zaH, za2, za4, zaG, zau, zam, del, frz, za5])
  | fail)
 (refine CallP.pp (zdW l q4 [108, 97, 115, 116] 1 1000 [[59]] 3 _ (by first | omega | simp <;> omega | fail) g3 hl (by simp)) (by first | (simp [hi, hne, del, htE, zaa, getK, zab, zac]; done) | fail) (by rfl) (by first | assumption | (simp; done) | fail) (by rfl) (by simp) (fun last q5 h5 => ?_) (fun pos e q' h5 => ⟨_, Wk.refl _, ?_⟩); rotate_left 1; (focus (rw [h5, PR.zax] at hR; (refine hpan _ _ ⟨{ n := _, env := [], obs := [(3, pOb l q')], next := 4 }, (Wk.cut rfl (by simp [hn]) (by simp [wkO, zaa, getK, zab, zac, Ob.under, D.under, zad, zaf, hi, hne, del, htE, zab, zac, zaa, getK]) (by simp [wkU, zan, zaa, getK, D.under, hi, hne, del, htE, zab, zac, zaa, getK]) (by simp [wkE, zan, zaa, getK, hi, hne, del, htE, zab, zac, zaa, getK])), by simp [hn], ?_⟩; try simp); exact PPost.zaF hR.symm)); rw [h5, PR.zaB] at hR; (try simp [hi, hne, del, htE]))
 obtain ⟨_, g5⟩ := zb0 hl h5 g3
 repeat' (first
  | ((first | refine zag ?_ | refine zaj ?_ | refine zah ?_ | fail); simp [hne, del])
  | (refine zav (by first | rfl | fail) ?_; simp [hne, del, frzN, frz1, zaz, zay, St.frz, St.frzS, frzS, fv, zaH, za2, za4, zaG, zau, zam, del, frz, za5])
  | fail)
 (refine CallP.pp (zdW l q5 [103, 114, 97, 99, 101] 0 1000 [[100, 97, 121, 115], [59]] 3 _ (by first | omega | simp <;> omega | fail) g5 hl (by simp)) (by first | (simp [hi, hne, del, htE, zaa, getK, zab, zac]; done) | fail) (by rfl) (by first | assumption | (simp; done) | fail) (by rfl) (by simp) (fun grace q6 h6 => ?_) (fun pos e q' h6 => ⟨_, Wk.refl _, ?_⟩); rotate_left 1; (focus (rw [h6, PR.zax] at hR; (refine hpan _ _ ⟨{ n := _, env := [], obs := [(3, pOb l q')], next := 4 }, (Wk.cut rfl (by simp [hn]) (by simp [wkO, zaa, getK, zab, zac, Ob.under, D.under, zad, zaf, hi, hne, del, htE, zab, zac, zaa, getK]) (by simp [wkU, zan, zaa, getK, D.under, hi, hne, del, htE, zab, zac, zaa, getK]) (by simp [wkE, zan, zaa, getK, hi, hne, del, htE, zab, zac, zaa, getK])), by simp [hn], ?_⟩; try simp); exact PPost.zaF hR.symm)); rw [h6, PR.zaB] at hR; (try simp [hi, hne, del, htE]))
 obtain ⟨_, g6⟩ := zb0 hl h6 g5
 repeat' (first
  | ((first | refine zag ?_ | refine zaj ?_ | refine zah ?_ | fail); simp [hne, del])
  | (refine zav (by first | rfl | fail) ?_; simp [hne, del, frzN, frz1, zaz, zay, St.frz, St.frzS, frzS, fv, zaH, za2, za4, zaG, zau, zam, del, frz, za5])
  | fail)
 (refine CallP.pp (zdW l q6 [119, 97, 105, 116] 0 1000 [[100, 97, 121, 115], [59]] 3 _ (by first | omega | simp <;> omega | fail) g6 hl (by simp)) (by first | (simp [hi, hne, del, htE, zaa, getK, zab, zac]; done) | fail) (by rfl) (by first | assumption | (simp; done) | fail) (by rfl) (by simp) (fun wait q7 h7 => ?_) (fun pos e q' h7 => ⟨_, Wk.refl _, ?_⟩); rotate_left 1; (focus (rw [h7, PR.zax] at hR; (refine hpan _ _ ⟨{ n := _, env := [], obs := [(3, pOb l q')], next := 4 }, (Wk.cut rfl (by simp [hn]) (by simp [wkO, zaa, getK, zab, zac, Ob.under, D.under, zad, zaf, hi, hne, del, htE, zab, zac, zaa, getK]) (by simp [wkU, zan, zaa, getK, D.under, hi, hne, del, htE, zab, zac, zaa, getK]) (by simp [wkE, zan, zaa, getK, hi, hne, del, htE, zab, zac, zaa, getK])), by simp [hn], ?_⟩; try simp); exact PPost.zaF hR.symm)); rw [h7, PR.zaB] at hR; (try simp [hi, hne, del, htE]))
 obtain ⟨_, g7⟩ := zb0 hl h7 g6
 repeat' (first
  | ((first | refine zag ?_ | refine zaj ?_ | refine zah ?_ | fail); simp [hne, del])
  | fail)
 (refine CallP.pp (zoh l q7 3 _ (by first | omega | simp <;> omega | fail) g7 hl) (by first | (simp [hi, hne, del, htE, zaa, getK, zab, zac]; done) | fail) (by rfl) (by first | assumption | (simp; done) | fail) (by rfl) (by simp) (fun order q8 h8 => ?_) (fun pos e q' h8 => ⟨_, Wk.refl _, ?_⟩); rotate_left 1; (focus (rw [h8, PR.zax] at hR; (refine hpan _ _ ⟨{ n := _, env := [], obs := [(3, pOb l q')], next := 4 }, (Wk.cut rfl (by simp [hn]) (by simp [wkO, zaa, getK, zab, zac, Ob.under, D.under, zad, zaf, hi, hne, del, htE, zab, zac, zaa, getK]) (by simp [wkU, zan, zaa, getK, D.under, hi, hne, del, htE, zab, zac, zaa, getK]) (by simp [wkE, zan, zaa, getK, hi, hne, del, htE, zab, zac, zaa, getK])), by simp [hn], ?_⟩; try simp); exact PPost.zaF hR.symm)); rw [h8, PR.zaB] at hR; (try simp [hi, hne, del, htE]))
 obtain ⟨_, g8⟩ := zj5 hl h8 g7
 repeat' (first
  | ((first | refine zag ?_ | refine zaj ?_ | refine zah ?_ | fail); simp [hne, del])
  | (refine zav (by first | rfl | fail) ?_; simp [hne, del, frzN, frz1, zaz, zay, St.frz, St.frzS, frzS, fv, zaH, za2, za4, zaG, zau, zam, del, frz, za5])
  | fail)
 (refine CallP.pp (zdW l q8 [98, 97, 99, 107, 115] 0 60 [[59]] 3 _ (by first | omega | simp <;> omega | fail) g8 hl (by simp)) (by first | (simp [hi, hne, del, htE, zaa, getK, zab, zac]; done) | fail) (by rfl) (by first | assumption | (simp; done) | fail) (by rfl) (by simp) (fun backs q9 h9 => ?_) (fun pos e q' h9 => ⟨_, Wk.refl _, ?_⟩); rotate_left 1; (focus (rw [h9, PR.zax] at hR; (refine hpan _ _ ⟨{ n := _, env := [], obs := [(3, pOb l q')], next := 4 }, (Wk.cut rfl (by simp [hn]) (by simp [wkO, zaa, getK, zab, zac, Ob.under, D.under, zad, zaf, hi, hne, del, htE, zab, zac, zaa, getK]) (by simp [wkU, zan, zaa, getK, D.under, hi, hne, del, htE, zab, zac, zaa, getK]) (by simp [wkE, zan, zaa, getK, hi, hne, del, htE, zab, zac, zaa, getK])), by simp [hn], ?_⟩; try simp); exact PPost.zaF hR.symm)); rw [h9, PR.zaB] at hR; (try simp [hi, hne, del, htE]))
 obtain ⟨_, g9⟩ := zb0 hl h9 g8
 repeat' (first
  | ((first | refine zag ?_ | refine zaj ?_ | refine zah ?_ | fail); simp [hne, del])
  | (refine zav (by first | rfl | fail) ?_; simp [hne, del, frzN, frz1, zaz, zay, St.frz, St.frzS, frzS, fv, zaH, za2, za4, zaG, zau, zam, del, frz, za5])
  | fail)
 (refine CallP.pp (zdW l q9 [118, 111, 105, 99, 101, 115] 0 1000 [[112, 101, 114], [109, 105, 108, 108, 101], [59]] 3 _ (by first | omega | simp <;> omega | fail) g9 hl (by simp)) (by first | (simp [hi, hne, del, htE, zaa, getK, zab, zac]; done) | fail) (by rfl) (by first | assumption | (simp; done) | fail) (by rfl) (by simp) (fun voices q10 h10 => ?_) (fun pos e q' h10 => ⟨_, Wk.refl _, ?_⟩); rotate_left 1; (focus (rw [h10, PR.zax] at hR; (refine hpan _ _ ⟨{ n := _, env := [], obs := [(3, pOb l q')], next := 4 }, (Wk.cut rfl (by simp [hn]) (by simp [wkO, zaa, getK, zab, zac, Ob.under, D.under, zad, zaf, hi, hne, del, htE, zab, zac, zaa, getK]) (by simp [wkU, zan, zaa, getK, D.under, hi, hne, del, htE, zab, zac, zaa, getK]) (by simp [wkE, zan, zaa, getK, hi, hne, del, htE, zab, zac, zaa, getK])), by simp [hn], ?_⟩; try simp); exact PPost.zaF hR.symm)); rw [h10, PR.zaB] at hR; (try simp [hi, hne, del, htE]))
 obtain ⟨_, g10⟩ := zb0 hl h10 g9
 repeat' (first
  | ((first | refine zag ?_ | refine zaj ?_ | refine zah ?_ | fail); simp [hne, del])
  | (refine zav (by first | rfl | fail) ?_; simp [hne, del, frzN, frz1, zaz, zay, St.frz, St.frzS, frzS, fv, zaH, za2, za4, zaG, zau, zam, del, frz, za5])
  | fail)
 (refine CallP.pp (zdW l q10 [106, 117, 114, 121] 0 60 [[59]] 3 _ (by first | omega | simp <;> omega | fail) g10 hl (by simp)) (by first | (simp [hi, hne, del, htE, zaa, getK, zab, zac]; done) | fail) (by rfl) (by first | assumption | (simp; done) | fail) (by rfl) (by simp) (fun jury q11 h11 => ?_) (fun pos e q' h11 => ⟨_, Wk.refl _, ?_⟩); rotate_left 1; (focus (rw [h11, PR.zax] at hR; (refine hpan _ _ ⟨{ n := _, env := [], obs := [(3, pOb l q')], next := 4 }, (Wk.cut rfl (by simp [hn]) (by simp [wkO, zaa, getK, zab, zac, Ob.under, D.under, zad, zaf, hi, hne, del, htE, zab, zac, zaa, getK]) (by simp [wkU, zan, zaa, getK, D.under, hi, hne, del, htE, zab, zac, zaa, getK]) (by simp [wkE, zan, zaa, getK, hi, hne, del, htE, zab, zac, zaa, getK])), by simp [hn], ?_⟩; try simp); exact PPost.zaF hR.symm)); rw [h11, PR.zaB] at hR; (try simp [hi, hne, del, htE]))
 obtain ⟨_, g11⟩ := zb0 hl h11 g10
 repeat' (first
  | ((first | refine zag ?_ | refine zaj ?_ | refine zah ?_ | fail); simp [hne, del])
  | (refine zav (by first | rfl | fail) ?_; simp [hne, del, frzN, frz1, zaz, zay, St.frz, St.frzS, frzS, fv, zaH, za2, za4, zaG, zau, zam, del, frz, za5])
  | fail)
 (refine CallP.pp (zdW l q11 [102, 117, 110, 100] 0 1000 [[112, 101, 114], [109, 105, 108, 108, 101], [59]] 3 _ (by first | omega | simp <;> omega | fail) g11 hl (by simp)) (by first | (simp [hi, hne, del, htE, zaa, getK, zab, zac]; done) | fail) (by rfl) (by first | assumption | (simp; done) | fail) (by rfl) (by simp) (fun fund q12 h12 => ?_) (fun pos e q' h12 => ⟨_, Wk.refl _, ?_⟩); rotate_left 1; (focus (rw [h12, PR.zax] at hR; (refine hpan _ _ ⟨{ n := _, env := [], obs := [(3, pOb l q')], next := 4 }, (Wk.cut rfl (by simp [hn]) (by simp [wkO, zaa, getK, zab, zac, Ob.under, D.under, zad, zaf, hi, hne, del, htE, zab, zac, zaa, getK]) (by simp [wkU, zan, zaa, getK, D.under, hi, hne, del, htE, zab, zac, zaa, getK]) (by simp [wkE, zan, zaa, getK, hi, hne, del, htE, zab, zac, zaa, getK])), by simp [hn], ?_⟩; try simp); exact PPost.zaF hR.symm)); rw [h12, PR.zaB] at hR; (try simp [hi, hne, del, htE]))
 obtain ⟨_, g12⟩ := zb0 hl h12 g11
 repeat' (first
  | ((first | refine zag ?_ | refine zaj ?_ | refine zah ?_ | fail); simp [hne, del])
  | fail)
 refine zfH _ (Wk.ownC 5 _ 11 45 6 (by decide) rfl rfl) ?_;simp [St.ownC];refine zcT (α := { x : Nat × List Let × Nat // x.1 < l.length /\ x.2.1.length + x.2.2 = 21 /\ x.2.1.length <= 20 /\ zeQ l 21 q12 [] = zeQ l x.2.2 x.1 x.2.1 }) [0, 2, 3] (fun x => [])
  (fun x => [(5, .box [.u (.int .i64 kb.1), .u (.int .i64 period), .u (.int .i64 grace), .u (.int .i64 wait), .u (.int .i64 last), .u (.int .i64 order), .u (.bool kb.2), .u (.int .i64 backs), .u (.int .i64 voices), .u (.int .i64 jury), .u (.int .i64 fund), .vec 14 x.1.2.1.length, .u (.int .i64 0), .u (.int .i64 0), .u (.int .i64 0), .u (.str []), .u .nil, .u (.int .i64 0), .u (.int .i64 0), .u (.int .i64 0), .u (.str []), .u .nil, .u (.int .i64 0), .u (.int .i64 0), .u (.int .i64 0), .u (.str []), .u .nil, .u (.int .i64 0), .u (.int .i64 0), .u (.int .i64 0), .u (.str []), .u .nil, .u (.int .i64 0), .u (.int .i64 0), .u (.int .i64 0), .u (.str []), .u .nil]), (14, .vec 45 6 (rowsD (zds x.1.2.1))), (4, .box [.u (.int .i64 0), .u (.int .i64 0), .u (.int .i64 0), .u (.int .i64 0), .u (.int .i64 0), .u (.int .i64 0), .u (.bool false), .u (.int .i64 0), .u (.int .i64 0), .u (.int .i64 0), .u (.int .i64 0), .u .nil, .u (.int .i64 0), .u (.int .i64 0), .u (.int .i64 0), .u (.str []), .u .nil, .u (.int .i64 0), .u (.int .i64 0), .u (.int .i64 0), .u (.str []), .u .nil, .u (.int .i64 0), .u (.int .i64 0), .u (.int .i64 0), .u (.str []), .u .nil, .u (.int .i64 0), .u (.int .i64 0), .u (.int .i64 0), .u (.str []), .u .nil, .u (.int .i64 0), .u (.int .i64 0), .u (.int .i64 0), .u (.str []), .u .nil]), (3, pOb l x.1.1)]) 15 (fun x => x.1.2.2) ⟨(q12, [], 21), g12, rfl, by simp, rfl⟩ ?_ ?_
 ·exact (Wk.cut rfl (by simp [hn, St.lp]) (by simp [wkO, St.lp, zaa, getK, Ob.under, D.under, zad, zaf, zds]) (by simp [wkU, St.lp, zan, zaa, getK, D.under, zds]) (by simp [wkE, St.lp, zan, zaa, getK, zds] <;> (try (intros; simp_all; done)) <;> (try (intros; omega)) <;> (try grind)))
 rintro ⟨⟨q, acc, g⟩, gq, hg, hg2, hS⟩;simp only at gq hg hg2 hS;simp [St.lp, St.only, zan, zaa, getK];have hm := zeN l q [108, 101, 116] gq hl.len;have hAl := zkh acc;have hsn := zic acc;generalize hA : zds acc = A at *;have htk : A.take acc.length = A := List.take_of_length_le (by omega);obtain ⟨g, rfl⟩ : ∃ g', g = g' + 1 := ⟨g - 1, by omega⟩;by_cases hb : isB l q [108, 101, 116] = true
 ·have g1q := zaO hl hb;obtain ⟨t, ht⟩ : ∃ t, l[q + 1]? = some t := ⟨_, List.getElem?_eq_getElem g1q⟩;have hnx := zb9 l (q + 1) t ht hl.len;rw [zm9 ht, if_pos hb] at hS;rw [hS, PR.zes] at hR;rw [hb] at hm
  repeat' (first
  | ((first | refine zag ?_ | refine zaj ?_ | refine zah ?_ | refine zai ?_ | refine zat ?_ | fail); simp [hne, del, hAl])
  | (refine zao ?_; simp only [zap])
  | (refine CallP.fE (hm) (by first | rfl | fail) (by first | simp [hne, del, hAl] <;> rfl | fail) ?_; (try simp [hne, del, hAl]))
  | fail)
  (refine CallP.pp (zhH l q (decide ((acc.length : Int) < 20)) 6 3 _ (by first | omega | simp <;> omega | fail) gq hl) (by first | (simp [hi, hne, del, zaa, getK, zab, zac]; done) | fail) (by rfl) (by first | assumption | (simp; done) | fail) (by rfl) (by simp) (fun u20 q20 h20 => ?_) (fun pos e q' h20 => ⟨_, Wk.refl _, ?_⟩); rotate_left 1; (focus (rw [h20, PR.zax] at hR; (refine hpan _ _ ⟨{ n := _, env := [], obs := [(3, pOb l q')], next := 4 }, (Wk.cut rfl (by simp [hn]) (by simp [wkO, zaa, getK, zab, zac, Ob.under, D.under, zad, zaf, hi, hne, del, zab, zac, zaa, getK]) (by simp [wkU, zan, zaa, getK, D.under, hi, hne, del, zab, zac, zaa, getK]) (by simp [wkE, zan, zaa, getK, hi, hne, del, zab, zac, zaa, getK])), by simp [hn], ?_⟩; try simp); exact PPost.zaF hR.symm)); rw [h20, PR.zaB] at hR; (try simp [hi, hne, del]))
  obtain ⟨rfl, hlt⟩ := zpb h20;rw [h20, PR.zaB] at hS;rw [PR.zes] at hR;by_cases hw : t.kind = 1
  case neg =>
   have hc2 := fun e nx' (h : 15 <= nx') => zcS l (q20 + 1) t e 3 nx' (by omega) ht hl.len;have e3 : znF l (q20 + 1) (decide (t.kind = 1) && zb3 t.text) 12 = .stop t.pos 12 := by
    unfold znF zbL; rw [ht]; simp [hw]
   rw [e3, PR.zax] at hR
   repeat' (first
  | ((first | refine zag ?_ | refine zaj ?_ | fail); simp [hne, del, hw])
  | (refine ⟨by omega, ?_⟩)
  | (refine zah ?_; simp [hne, del, hw])
  | (refine CallP.fE (hnx) (by first | rfl | fail) (by first | simp [hne, del, hw] <;> rfl | fail) ?_; (try simp [hne, del, hw]))
  | (refine CallP.zeW (hc2 _ _ (by first | omega | simp <;> omega | fail)) (by first | (simp [hne, del, hw, zaa, getK, zab, zac]; done) | fail) (by rfl) (by first | assumption | (simp; done) | fail) (by rfl) (by simp) ?_; rintro ob' ⟨q', rfl⟩; refine ⟨_, Wk.refl _, ?_⟩)
  | fail)
   (refine hpan _ _ ⟨{ n := _, env := [], obs := [(3, pOb l q')], next := 4 }, (Wk.cut rfl (by simp [hn]) (by simp [wkO, zaa, getK, zab, zac, Ob.under, D.under, zad, zaf, hi, hne, zab, zac, zaa, getK]) (by simp [wkU, zan, zaa, getK, D.under, hi, hne, zab, zac, zaa, getK]) (by simp [wkE, zan, zaa, getK, hi, hne, zab, zac, zaa, getK])), by simp [hn], ?_⟩; try simp)
   exact PPost.zaF hR.symm
  have hnm := zeD t.text;have e3 : (decide (t.kind = 1) && zb3 t.text) = zb3 t.text := by simp [hw]
  rw [e3] at hR hS;generalize zb3 t.text = nb at hnm hR hS
  repeat' (first
  | ((first | refine zag ?_ | refine zaj ?_ | fail); simp [hne, del, hw])
  | (refine ⟨by omega, ?_⟩)
  | (refine zah ?_; simp [hne, del, hw])
  | (refine CallP.fE (hnx) (by first | rfl | fail) (by first | simp [hne, del, hw] <;> rfl | fail) ?_; (try simp [hne, del, hw]))
  | (refine CallP.fE (hnm) (by first | rfl | fail) (by first | simp [hne, del, hw] <;> rfl | fail) ?_; (try simp [hne, del, hw]))
  | fail)
  (refine CallP.pp (zhH l (q20 + 1) nb 12 3 _ (by first | omega | simp <;> omega | fail) g1q hl) (by first | (simp [hi, hne, del, zaa, getK, zab, zac]; done) | fail) (by rfl) (by first | assumption | (simp; done) | fail) (by rfl) (by simp) (fun u21 q21 h21 => ?_) (fun pos e q' h21 => ⟨_, Wk.refl _, ?_⟩); rotate_left 1; (focus (rw [h21, PR.zax] at hR; (refine hpan _ _ ⟨{ n := _, env := [], obs := [(3, pOb l q')], next := 4 }, (Wk.cut rfl (by simp [hn]) (by simp [wkO, zaa, getK, zab, zac, Ob.under, D.under, zad, zaf, hi, hne, del, zab, zac, zaa, getK]) (by simp [wkU, zan, zaa, getK, D.under, hi, hne, del, zab, zac, zaa, getK]) (by simp [wkE, zan, zaa, getK, hi, hne, del, zab, zac, zaa, getK])), by simp [hn], ?_⟩; try simp); exact PPost.zaF hR.symm)); rw [h21, PR.zaB] at hR; (try simp [hi, hne, del]))
  obtain ⟨rfl, hnb⟩ := zpb h21;rw [h21, PR.zaB] at hS;rw [PR.zes] at hR;have htw := znO acc t.text;have htw : Fun Tryz.prog 67 [.u (.sl (zds acc)), .fnc (.func 82) [.u (.row [.str t.text] 0)]] (· = .u (.bool (acc.any fun x => decide (x.name = t.text)))) := htw;rw [hA] at htw;generalize (acc.any fun x => decide (x.name = t.text)) = tb at htw hR hS
  repeat' (first
  | ((first | refine zag ?_ | refine zaj ?_ | refine zah ?_ | fail); simp [hne, del, hw, htk, hAl])
  | (refine CallP.fE (htw) (by first | rfl | fail) (by first | simp [hne, del, hw, htk, hAl] <;> rfl | fail) ?_; (try simp [hne, del, hw, htk, hAl]))
  | fail)
  (refine CallP.pp (zhH l (q20 + 1) (!tb) 5 3 _ (by first | omega | simp <;> omega | fail) g1q hl) (by first | (simp [hi, hne, del, zaa, getK, zab, zac]; done) | fail) (by rfl) (by first | assumption | (simp; done) | fail) (by rfl) (by simp) (fun u22 q22 h22 => ?_) (fun pos e q' h22 => ⟨_, Wk.refl _, ?_⟩); rotate_left 1; (focus (rw [h22, PR.zax] at hR; (refine hpan _ _ ⟨{ n := _, env := [], obs := [(3, pOb l q')], next := 4 }, (Wk.cut rfl (by simp [hn]) (by simp [wkO, zaa, getK, zab, zac, Ob.under, D.under, zad, zaf, hi, hne, del, zab, zac, zaa, getK]) (by simp [wkU, zan, zaa, getK, D.under, hi, hne, del, zab, zac, zaa, getK]) (by simp [wkE, zan, zaa, getK, hi, hne, del, zab, zac, zaa, getK])), by simp [hn], ?_⟩; try simp); exact PPost.zaF hR.symm)); rw [h22, PR.zaB] at hR; (try simp [hi, hne, del]))
  obtain ⟨rfl, htb⟩ := zpb h22;rw [h22, PR.zaB] at hS;rw [PR.zes] at hR;have g2q := hl.fin (q20 + 1) t ht (by omega)
  repeat' (first
  | ((first | refine zag ?_ | refine zaj ?_ | fail); simp [hne, del])
  | (refine ⟨by omega, ?_⟩)
  | (refine zah ?_; simp [hne, del])
  | (refine zav (by first | rfl | fail) ?_; simp [hne, del, frzN, frz1, zaz, zay, St.frz, St.frzS, frzS, fv, zaH, za2, za4, zaG, zau, zam, del, frz, za5])
  | fail)
  (refine CallP.pp (zfK hl [61] (q := q20 + 1 + 1) (i := 3) (by first | omega | simp <;> omega | fail) g2q) (by first | (simp [hi, hne, del, zaa, getK, zab, zac]; done) | fail) (by rfl) (by first | assumption | (simp; done) | fail) (by rfl) (by simp) (fun u23 q23 h23 => ?_) (fun pos e q' h23 => ⟨_, Wk.refl _, ?_⟩); rotate_left 1; (focus (rw [h23, PR.zax] at hR; (refine hpan _ _ ⟨{ n := _, env := [], obs := [(3, pOb l q')], next := 4 }, (Wk.cut rfl (by simp [hn]) (by simp [wkO, zaa, getK, zab, zac, Ob.under, D.under, zad, zaf, hi, hne, del, zab, zac, zaa, getK]) (by simp [wkU, zan, zaa, getK, D.under, hi, hne, del, zab, zac, zaa, getK]) (by simp [wkE, zan, zaa, getK, hi, hne, del, zab, zac, zaa, getK])), by simp [hn], ?_⟩; try simp); exact PPost.zaF hR.symm)); rw [h23, PR.zaB] at hR; (try simp [hi, hne, del]))
  obtain ⟨_, g23⟩ := zaJ hl _ h23 g2q;rw [h23, PR.zaB] at hS;rw [PR.zes] at hR;have hwh := fun nx' (h : 15 <= nx') => zha l q23 3 nx' (by omega) g23 hl hl2;cases hr : zdu l q23 with
  | stop pos e =>
   rw [hr, PR.zax] at hR;simp only [hr] at hwh
   repeat' (first
  | (refine zgh (fun nx' h' => hwh nx' (by simp at h'; omega)) (by first | (simp [hne, del, htk, hAl, zaa, getK, zab, zac, zal, zaL]; done) | fail) (by rfl) (by first | assumption | simp) (by rfl) (by simp) ?_ ?_; rintro env' ob' n' hn' ⟨q', rfl⟩; refine ⟨_, Wk.refl _, ?_⟩)
  | (refine zfh rfl (by simp) ?_; simp)
  | ((first | refine zaS rfl ?_ | refine zaj ?_ | fail); simp [hne, del, htk, hAl])
  | (refine zgi (hC _ (by kernel_rfl)) rfl; done)
  | (refine za3 rfl (by kernel_rfl) (by first | (simp [hn]; done) | (simp [hn]; omega) | fail) fun C k hC hk => ?_; simp [hne, del, htk, hAl])
  | fail)
   (refine hpan _ _ ⟨{ n := _, env := [], obs := [(3, pOb l q')], next := 4 }, (Wk.cut rfl (by simp [hn]) (by simp [wkO, zaa, getK, zab, zac, Ob.under, D.under, zad, zaf, hi, hne, zab, zac, zaa, getK]) (by simp [wkU, zan, zaa, getK, D.under, hi, hne, zab, zac, zaa, getK]) (by simp [wkE, zan, zaa, getK, hi, hne, zab, zac, zaa, getK])), by simp [hn], ?_⟩; try simp)
   exact PPost.zaF hR.symm
  | ok e r =>
   have hwh := fun nx' h => zdy (hwh nx' h) hr;obtain ⟨_, g24⟩ := zdL hl hr g23;rw [hr, PR.zaB] at hS
   repeat' (first
  | (refine zfi (fun nx' h' => hwh nx' (by simp at h'; omega)) (by first | (simp [hne, del, htk, hAl, zaa, getK, zab, zac, zal, zaL]; done) | fail) (by rfl) (by first | assumption | simp) (by rfl) (by simp [D.under, Ob.under]) (by simp) ?_; (try simp [hne, del, htk, hAl]))
  | ((first | refine zaS rfl ?_ | refine zbJ rfl ?_ | refine zaj ?_ | fail); simp [hne, del, htk, hAl])
  | (refine ⟨by omega, ?_⟩)
  | (refine za0 (hC _ (by kernel_rfl)) (hk _ ?_); clear hC hk C k; simp only [zap])
  | (refine za3 rfl (by kernel_rfl) (by first | (simp [hn]; done) | (simp [hn]; omega) | fail) fun C k hC hk => ?_; simp [hne, del, htk, hAl])
  | fail)
   have hlt' : acc.length < 20 := by have := of_decide_eq_true hlt; omega
   refine LoopW.next ⟨(r, acc ++ [⟨t.text, e⟩], g), g24, (by simp; omega), (by simp; omega), hS⟩ (by simp) ?_
   exact (Wk.ren ((fun j => if j = 14 then 18 else j)) rfl (by first | (simp [hn]; done) | (intro i hi; rw [hn] at hi; constructor <;> (try simp) <;> (try (intro _)) <;> omega)) (by simp [zgl, St.lp, zan, zaa, getK, zac, zal, D.under, D.le, D.ren, hsn, htk] <;> (try (intros; simp_all; done)) <;> (try omega)) (by simp [wkR, St.lp, zaa, getK, zac, zal, obR, leU, zbe, zaR, Ob.under, D.under, D.le, D.ren, hsn, htk] <;> (try (intros; simp_all; done)) <;> (try omega)) (by simp [hsn, htk]))
 ·rw [zoD hb] at hS;rw [hS, PR.zaB] at hR;have hb2 : isB l q [108, 101, 116] = false := by simpa using hb
  rw [hb2] at hm
  repeat' (first
  | ((first | refine zag ?_ | refine zaj ?_ | refine zah ?_ | refine zai ?_ | fail); simp [hne, del])
  | (refine za9 ?_; simp [zap])
  | (refine CallP.fE (hm) (by first | rfl | fail) (by first | simp [hne, del] <;> rfl | fail) ?_; (try simp [hne, del]))
  | (refine zav (by first | rfl | fail) ?_; simp [hne, del, frzN, frz1, zaz, zay, St.frz, St.frzS, frzS, fv, zaH, za2, za4, zaG, zau, zam, del, frz, za5])
  | fail)
  (refine CallP.pp (zfK hl [100, 117, 101] (q := q) (i := 3) (by first | omega | simp <;> omega | fail) gq) (by first | (simp [hi, hne, del, zaa, getK, zab, zac]; done) | fail) (by rfl) (by first | assumption | (simp; done) | fail) (by rfl) (by simp) (fun u30 q30 h30 => ?_) (fun pos e q' h30 => ⟨_, Wk.refl _, ?_⟩); rotate_left 1; (focus (rw [h30, PR.zax] at hR; (refine hpan _ _ ⟨{ n := _, env := [], obs := [(3, pOb l q')], next := 4 }, (Wk.cut rfl (by simp [hn]) (by simp [wkO, zaa, getK, zab, zac, Ob.under, D.under, zad, zaf, hi, hne, del, zab, zac, zaa, getK]) (by simp [wkU, zan, zaa, getK, D.under, hi, hne, del, zab, zac, zaa, getK]) (by simp [wkE, zan, zaa, getK, hi, hne, del, zab, zac, zaa, getK])), by simp [hn], ?_⟩; try simp); exact PPost.zaF hR.symm)); rw [h30, PR.zaB] at hR; (try simp [hi, hne, del]))
  obtain ⟨_, g30⟩ := zaJ hl _ h30 gq
  repeat' (first
  | ((first | refine zag ?_ | refine zaj ?_ | refine zah ?_ | fail); simp [hne, del])
  | fail)
  (refine CallP.pp (zha l q30 3 _ (by first | omega | simp <;> omega | fail) g30 hl hl2) (by first | (simp [hi, hne, del, zeO, Exp.row_eq, zaa, getK, zab, zac]; done) | fail) (by rfl) (by first | assumption | (simp; done) | fail) (by rfl) (by simp) (fun due q31 h31 => ?_) (fun pos e q' h31 => ⟨_, Wk.refl _, ?_⟩); rotate_left 1; (focus (rw [h31, PR.zax] at hR; (refine hpan _ _ ⟨{ n := _, env := [], obs := [(3, pOb l q')], next := 4 }, (Wk.cut rfl (by simp [hn]) (by simp [wkO, zaa, getK, zab, zac, Ob.under, D.under, zad, zaf, hi, hne, del, zeO, Exp.row_eq, zab, zac, zaa, getK]) (by simp [wkU, zan, zaa, getK, D.under, hi, hne, del, zeO, Exp.row_eq, zab, zac, zaa, getK]) (by simp [wkE, zan, zaa, getK, hi, hne, del, zeO, Exp.row_eq, zab, zac, zaa, getK])), by simp [hn], ?_⟩; try simp); exact PPost.zaF hR.symm)); rw [h31, PR.zaB] at hR; (try simp [hi, hne, del, zeO, Exp.row_eq]))
  obtain ⟨_, g31⟩ := zdL hl h31 g30
  repeat' (first
  | ((first | refine zag ?_ | refine zaj ?_ | refine zah ?_ | fail); simp [hne, del])
  | fail)
  (refine CallP.pp (zfz l q31 [102, 105, 110, 101] 3 _ (by first | omega | simp <;> omega | fail) g31 hl hl2) (by first | (simp [hi, hne, del, zeO, Exp.row_eq, zaa, getK, zab, zac]; done) | fail) (by rfl) (by first | assumption | (simp; done) | fail) (by rfl) (by simp) (fun fine q32 h32 => ?_) (fun pos e q' h32 => ⟨_, Wk.refl _, ?_⟩); rotate_left 1; (focus (rw [h32, PR.zax] at hR; (refine hpan _ _ ⟨{ n := _, env := [], obs := [(3, pOb l q')], next := 4 }, (Wk.cut rfl (by simp [hn]) (by simp [wkO, zaa, getK, zab, zac, Ob.under, D.under, zad, zaf, hi, hne, del, zeO, Exp.row_eq, zab, zac, zaa, getK]) (by simp [wkU, zan, zaa, getK, D.under, hi, hne, del, zeO, Exp.row_eq, zab, zac, zaa, getK]) (by simp [wkE, zan, zaa, getK, hi, hne, del, zeO, Exp.row_eq, zab, zac, zaa, getK])), by simp [hn], ?_⟩; try simp); exact PPost.zaF hR.symm)); rw [h32, PR.zaB] at hR; (try simp [hi, hne, del, zeO, Exp.row_eq]))
  obtain ⟨_, g32⟩ := zcI hl h32 g31
  repeat' (first
  | (refine zag ?_; simp [hne, del])
  | fail)
  (refine CallP.pp (zfz l q32 [112, 97, 121] 3 _ (by first | omega | simp <;> omega | fail) g32 hl hl2) (by first | (simp [hi, hne, del, zeO, Exp.row_eq, zaa, getK, zab, zac]; done) | fail) (by rfl) (by first | assumption | (simp; done) | fail) (by rfl) (by simp) (fun pay q33 h33 => ?_) (fun pos e q' h33 => ⟨_, Wk.refl _, ?_⟩); rotate_left 1; (focus (rw [h33, PR.zax] at hR; (refine hpan _ _ ⟨{ n := _, env := [], obs := [(3, pOb l q')], next := 4 }, (Wk.cut rfl (by simp [hn]) (by simp [wkO, zaa, getK, zab, zac, Ob.under, D.under, zad, zaf, hi, hne, del, zeO, Exp.row_eq, zab, zac, zaa, getK]) (by simp [wkU, zan, zaa, getK, D.under, hi, hne, del, zeO, Exp.row_eq, zab, zac, zaa, getK]) (by simp [wkE, zan, zaa, getK, hi, hne, del, zeO, Exp.row_eq, zab, zac, zaa, getK])), by simp [hn], ?_⟩; try simp); exact PPost.zaF hR.symm)); rw [h33, PR.zaB] at hR; (try simp [hi, hne, del, zeO, Exp.row_eq]))
  obtain ⟨_, g33⟩ := zcI hl h33 g32
  repeat' (first
  | (refine zag ?_; simp [hne, del])
  | fail)
  (refine CallP.pp (zfz l q33 [99, 111, 118, 101, 114] 3 _ (by first | omega | simp <;> omega | fail) g33 hl hl2) (by first | (simp [hi, hne, del, zeO, Exp.row_eq, zaa, getK, zab, zac]; done) | fail) (by rfl) (by first | assumption | (simp; done) | fail) (by rfl) (by simp) (fun cover q34 h34 => ?_) (fun pos e q' h34 => ⟨_, Wk.refl _, ?_⟩); rotate_left 1; (focus (rw [h34, PR.zax] at hR; (refine hpan _ _ ⟨{ n := _, env := [], obs := [(3, pOb l q')], next := 4 }, (Wk.cut rfl (by simp [hn]) (by simp [wkO, zaa, getK, zab, zac, Ob.under, D.under, zad, zaf, hi, hne, del, zeO, Exp.row_eq, zab, zac, zaa, getK]) (by simp [wkU, zan, zaa, getK, D.under, hi, hne, del, zeO, Exp.row_eq, zab, zac, zaa, getK]) (by simp [wkE, zan, zaa, getK, hi, hne, del, zeO, Exp.row_eq, zab, zac, zaa, getK])), by simp [hn], ?_⟩; try simp); exact PPost.zaF hR.symm)); rw [h34, PR.zaB] at hR; (try simp [hi, hne, del, zeO, Exp.row_eq]))
  obtain ⟨_, g34⟩ := zcI hl h34 g33
  repeat' (first
  | (refine zag ?_; simp [hne, del])
  | fail)
  (refine CallP.pp (zfz l q34 [104, 111, 108, 100] 3 _ (by first | omega | simp <;> omega | fail) g34 hl hl2) (by first | (simp [hi, hne, del, zeO, Exp.row_eq, zaa, getK, zab, zac]; done) | fail) (by rfl) (by first | assumption | (simp; done) | fail) (by rfl) (by simp) (fun hold q35 h35 => ?_) (fun pos e q' h35 => ⟨_, Wk.refl _, ?_⟩); rotate_left 1; (focus (rw [h35, PR.zax] at hR; (refine hpan _ _ ⟨{ n := _, env := [], obs := [(3, pOb l q')], next := 4 }, (Wk.cut rfl (by simp [hn]) (by simp [wkO, zaa, getK, zab, zac, Ob.under, D.under, zad, zaf, hi, hne, del, zeO, Exp.row_eq, zab, zac, zaa, getK]) (by simp [wkU, zan, zaa, getK, D.under, hi, hne, del, zeO, Exp.row_eq, zab, zac, zaa, getK]) (by simp [wkE, zan, zaa, getK, hi, hne, del, zeO, Exp.row_eq, zab, zac, zaa, getK])), by simp [hn], ?_⟩; try simp); exact PPost.zaF hR.symm)); rw [h35, PR.zaB] at hR; (try simp [hi, hne, del, zeO, Exp.row_eq]))
  obtain ⟨_, g35⟩ := zcI hl h35 g34;obtain ⟨t, ht⟩ : ∃ t, l[q35]? = some t := ⟨_, List.getElem?_eq_getElem g35⟩;have hnx := zb9 l q35 t ht hl.len
  repeat' (first
  | ((first | refine zag ?_ | refine zaj ?_ | refine zah ?_ | fail); simp [hne, del])
  | (refine CallP.fE (hnx) (by first | rfl | fail) (by first | simp [hne, del] <;> rfl | fail) ?_; (try simp [hne, del]))
  | fail)
  (refine CallP.pp (zrs ht 3 _ (by first | omega | simp <;> omega | fail) hl) (by first | (simp [hi, hne, del, zaa, getK, zab, zac]; done) | fail) (by rfl) (by first | assumption | (simp; done) | fail) (by rfl) (by simp) (fun u36 q36 h36 => ?_) (fun pos e q' h36 => ⟨_, Wk.refl _, ?_⟩); rotate_left 1; (focus (rw [h36, PR.zax] at hR; (refine hpan _ _ ⟨{ n := _, env := [], obs := [(3, pOb l q')], next := 4 }, (Wk.cut rfl (by simp [hn]) (by simp [wkO, zaa, getK, zab, zac, Ob.under, D.under, zad, zaf, hi, hne, del, zab, zac, zaa, getK]) (by simp [wkU, zan, zaa, getK, D.under, hi, hne, del, zab, zac, zaa, getK]) (by simp [wkE, zan, zaa, getK, hi, hne, del, zab, zac, zaa, getK])), by simp [hn], ?_⟩; try simp); exact PPost.zaF hR.symm)); rw [h36, PR.zaB] at hR; (try simp [hi, hne, del]))
  obtain rfl := zr7 h36
  repeat' (first
  | ((first | refine zag ?_ | refine zaj ?_ | refine zah ?_ | fail); simp [hne, del])
  | (refine zaq ?_; simp only [zap])
  | fail)
  (refine EndW.frzN 1 ?_; simp [frzN, frz1, zaz, zay, St.frz, St.frzS, frzS, fv, zaH, za2, za4, zaG, zau, zam, del, frz, za5, hAl, htk])
  refine EndW.norm ?_;simp [St.norm, zaD, zaT, zaV, zaW, hne]
  (refine EndW.here ?_; (first | (refine EndOK.fin (.inr rfl) ?_) | (refine EndOK.fin (.inl rfl) ?_)); simp [zaA, zae, Tryz.results37, hne, hi]; refine FinOK.cut [(3, pOb l q36)] (4) (by simp [zaa, getK, zab, zac, Ob.under, D.under, zad, zaf, hne, hi] <;> omega) (by simp [D.under]) (by simp [hn]) ?_; try simp)
  exact PPost.zcy hR.symm (by simp [zbb, <- hA, zds]) rfl
theorem zjF : Fun Tryz.prog 30 [] (· = .u (.agg nothingE.row)) := by
 simp only [nothingE, Exp.row, List.map_nil]
 (refine Fun.of_bodyW Tryz.func30 rfl (by simp) fun Γ hn => ?_); simp only [entry, ziC, ziN, maC, maN, oA, Tryz.ntmps30]
 repeat' (first
  | ((first | refine zag ?_ | refine zaj ?_ | refine zah ?_ | fail); simp)
  | (refine zaq ?_; simp only [zap])
  | fail)
 refine EndW.norm ?_;simp [St.norm, zaD, zaT, zaV, zaW];refine EndW.here ?_
 (refine EndOK.val (.inr rfl) ?_; simp [zaA, zae, zar, Tryz.results30])
theorem zmg (e : Exp) : Fun Tryz.prog 111 [.u (.agg e.row)] (· = .u (.int .i64 (zeS e.op))) := by
 have hop := zeB;rw [Exp.row_eq];by_cases h1 : e.op = 13
 ·rw [zeS, if_pos h1]
  (refine Fun.of_body Tryz.func111 rfl (by simp) fun Γ hn => ?_); simp only [entry, ziC, ziN, maC, maN, oA, Tryz.ntmps111]
  repeat' (first
  | ((first | refine zag ?_ | refine zaj ?_ | refine zah ?_ | refine zai ?_ | refine zat ?_ | fail); simp [h1])
  | (refine zaq ?_; simp only [zap])
  | fail)
  (refine EndOK.val (.inr rfl) ?_; simp [zaA, zae, zar, Tryz.results111])
 ·by_cases h2 : e.op = 12
  ·rw [zeS, if_neg h1, if_pos h2]
   (refine Fun.of_body Tryz.func111 rfl (by simp) fun Γ hn => ?_); simp only [entry, ziC, ziN, maC, maN, oA, Tryz.ntmps111]
   repeat' (first
  | ((first | refine zag ?_ | refine zaj ?_ | refine zah ?_ | refine zai ?_ | refine zat ?_ | fail); simp [h1, h2])
  | (refine zaq ?_; simp only [zap])
  | fail)
   (refine EndOK.val (.inr rfl) ?_; simp [zaA, zae, zar, Tryz.results111])
  ·rw [zeS, if_neg h1, if_neg h2];have hlen : oprs.length = 8 := rfl;generalize oprs = L at *
   (refine Fun.of_body Tryz.func111 rfl (by simp) fun Γ hn => ?_); simp only [entry, ziC, ziN, maC, maN, oA, Tryz.ntmps111]
   repeat' (first
  | ((first | refine zag ?_ | refine zaj ?_ | refine zah ?_ | refine zai ?_ | refine zat ?_ | fail); simp [h1, h2, hlen])
  | (refine zao ?_; simp only [zap])
  | (refine CallP.fE (hop) (by first | rfl | fail) (by first | simp [h1, h2, hlen] <;> rfl | fail) ?_; (try simp [h1, h2, hlen]))
  | fail)
   refine zcT (α := { i : Nat // i <= 8 /\ ∀ o ∈ L.take i, decide (o.op = e.op) = false }) [1, 2, 11, 12] (fun x => [(13, .u (.int .i64 x.1))]) (fun x => [(0, .box [.u (.int .i64 e.op), .u (.int .i64 e.n), .u (.int .i64 e.unit), .u (.str e.s), .u (.sl (e.args.map Exp.row))])]) 1 (fun x => 8 - x.1) ⟨0, by omega, by simp⟩ ?_ ?_
   ·exact (Wk.cut rfl (by simp [hn, St.lp]) (by simp [wkO, St.lp, zaa, getK, Ob.under, D.under, zad, zaf, hlen]) (by simp [wkU, St.lp, zan, zaa, getK, D.under, hlen]) (by simp [wkE, St.lp, zan, zaa, getK, hlen] <;> (try (intros; simp_all; done)) <;> (try (intros; omega)) <;> (try grind)))
   rintro ⟨i, hi, hb⟩;simp [St.lp, St.only, zan, zaa, getK];rcases hx : L[i]? with _ | o
   ·have hge : L.length <= i := by simpa using hx
    obtain rfl : i = 8 := by omega
    rw [List.take_of_length_le (by omega)] at hb;have hn0 : L.find? (fun o => decide (o.op = e.op)) = none := by rw [List.find?_eq_none]; intro o ho; simp [hb o ho]
    rw [hn0]
    repeat' (first
  | ((first | refine zag ?_ | refine zaj ?_ | refine zah ?_ | fail); simp [hx, hlen])
  | (refine zaq ?_; simp only [zap])
  | (refine za9 ?_; simp [zap])
  | fail)
    (refine EndOK.val (.inr rfl) ?_; simp [zaA, zae, zar, Tryz.results111])
   ·have hlt : i < L.length := (lGE.1 hx).1;have hi8 : i < 8 := by omega
    have hxe : L[i]'hlt = o := (lGE.1 hx).2;by_cases hp : o.op = e.op
    ·have hf : L.find? (fun o => decide (o.op = e.op)) = some o := by
      rw [List.find?_eq_some_iff_getElem];refine ⟨by simpa using hp, i, hlt, (lGE.1 hx).2, fun j hj => ?_⟩;have := hb (L[j]'(by omega)) (by rw [List.mem_take_iff_getElem]; exact ⟨j, by omega, rfl⟩);simp [this]
     rw [hf]
     repeat' (first
  | ((first | refine zag ?_ | refine zaj ?_ | refine zah ?_ | refine zai ?_ | fail); simp [hx, hlen, hp, hi8, hxe])
  | ((first | refine zaq ?_ | refine zao ?_ | fail); simp only [zap])
  | (refine ⟨?_, by omega⟩)
  | (intro hc <;> (try (exfalso; omega)))
  | fail)
     (refine EndOK.val (.inr rfl) ?_; simp [zaA, zae, zar, Tryz.results111])
    ·repeat' (first
  | ((first | refine zag ?_ | refine zaj ?_ | fail); simp [hx, hlen, hp, hi8, hxe])
  | (refine ⟨by omega, ?_⟩)
  | ((first | refine zah ?_ | refine zai ?_ | refine zas ?_ | fail); simp [hx, hlen, hp, hi8, hxe])
  | (refine zao ?_; simp only [zap])
  | (refine ⟨?_, by omega⟩)
  | (intro hc <;> (try (exfalso; omega)))
  | fail)
     refine LoopW.next ⟨i + 1, by omega, zbv (p := fun o : Opr => decide (o.op = e.op) = false) hx hb (by simpa using hp)⟩ (by simp; omega) ?_
     exact (Wk.cut rfl (by simp [hn, St.lp]) (by simp [wkO, St.lp, zaa, getK, Ob.under, D.under, zad, zaf, hlen]) (by simp [wkU, St.lp, zan, zaa, getK, D.under, hlen]) (by simp [wkE, St.lp, zan, zaa, getK, hlen] <;> (try (intros; simp_all; done)) <;> (try (intros; omega)) <;> (try grind)))
theorem zm2 (n u : Int) (h : zra (.mk 0 n u [] []) = true) : Fun Tryz.prog 113 [.u (.agg (Exp.mk 0 n u [] []).row)] (· = .u (.str (zbU (zgR n u)))) := by
 obtain ⟨hu0, hu1, hn0, hn2, hn1⟩ := zoo h;have hit := zmb n (by omega) (by omega);have hil := ziZ hn0 hn2;rw [Exp.row, List.map_nil, zgR];generalize Lib.itoa n = T at *;have hil2 : T.length <= 1000 := by omega
 by_cases c0 : u = 0
 ·rw [if_pos c0];by_cases c1 : n = 1
  ·rw [if_pos c1, zbh]
   (refine Fun.of_body Tryz.func113 rfl (by simp) fun Γ hn => ?_); simp only [entry, ziC, ziN, maC, maN, oA, Tryz.ntmps113]
   repeat' (first
  | ((first | refine zag ?_ | refine zaj ?_ | refine zah ?_ | refine zai ?_ | refine zat ?_ | fail); simp [c0, c1])
  | (refine zaq ?_; simp only [zap])
  | (refine CallP.fE (hit) (by first | rfl | fail) (by first | simp [c0, c1] <;> rfl | fail) ?_; (try simp [c0, c1]))
  | fail)
   (refine EndOK.val (.inr rfl) ?_; simp [zaA, zae, zar, Tryz.results113])
  ·rw [if_neg c1, zbh]
   (refine Fun.of_body Tryz.func113 rfl (by simp) fun Γ hn => ?_); simp only [entry, ziC, ziN, maC, maN, oA, Tryz.ntmps113]
   repeat' (first
  | ((first | refine zag ?_ | refine zaj ?_ | refine zah ?_ | refine zai ?_ | refine zat ?_ | fail); simp [c0, c1])
  | ((first | refine zaq ?_ | refine zao ?_ | fail); simp only [zap])
  | (refine CallP.fE (hit) (by first | rfl | fail) (by first | simp [c0, c1] <;> rfl | fail) ?_; (try simp [c0, c1]))
  | fail)
   (refine EndOK.val (.inr rfl) ?_; simp [zaA, zae, zar, Tryz.results113])
 ·rw [if_neg c0];by_cases c3 : u = 3
  ·rw [if_pos c3, zbr, zbh]
   (refine Fun.of_body Tryz.func113 rfl (by simp) fun Γ hn => ?_); simp only [entry, ziC, ziN, maC, maN, oA, Tryz.ntmps113]
   repeat' (first
  | ((first | refine zag ?_ | refine zaj ?_ | fail); simp [c0, c3])
  | (refine ⟨by omega, ?_⟩)
  | ((first | refine zah ?_ | refine zai ?_ | refine zat ?_ | fail); simp [c0, c3])
  | (refine zaq ?_; simp only [zap])
  | (refine CallP.fE (hit) (by first | rfl | fail) (by first | simp [c0, c3] <;> rfl | fail) ?_; (try simp [c0, c3]))
  | fail)
   (refine EndOK.val (.inr rfl) ?_; simp [zaA, zae, zar, Tryz.results113])
  ·rw [if_neg c3];by_cases c2 : u = 2
   ·rw [if_pos c2, zbr, zbh]
    (refine Fun.of_body Tryz.func113 rfl (by simp) fun Γ hn => ?_); simp only [entry, ziC, ziN, maC, maN, oA, Tryz.ntmps113]
    repeat' (first
  | ((first | refine zag ?_ | refine zaj ?_ | fail); simp [c0, c2, c3])
  | (refine ⟨by omega, ?_⟩)
  | ((first | refine zah ?_ | refine zai ?_ | refine zat ?_ | fail); simp [c0, c2, c3])
  | (refine zaq ?_; simp only [zap])
  | (refine CallP.fE (hit) (by first | rfl | fail) (by first | simp [c0, c2, c3] <;> rfl | fail) ?_; (try simp [c0, c2, c3]))
  | fail)
    (refine EndOK.val (.inr rfl) ?_; simp [zaA, zae, zar, Tryz.results113])
   ·rw [if_neg c2];by_cases c4 : u = 4
    ·rw [if_pos c4, zbr, zbr, zbh]
     (refine Fun.of_body Tryz.func113 rfl (by simp) fun Γ hn => ?_); simp only [entry, ziC, ziN, maC, maN, oA, Tryz.ntmps113]
     repeat' (first
  | ((first | refine zag ?_ | refine zaj ?_ | fail); simp [c0, c2, c3, c4])
  | (refine ⟨by omega, ?_⟩)
  | ((first | refine zah ?_ | refine zai ?_ | refine zat ?_ | fail); simp [c0, c2, c3, c4])
  | (refine zaq ?_; simp only [zap])
  | (refine CallP.fE (hit) (by first | rfl | fail) (by first | simp [c0, c2, c3, c4] <;> rfl | fail) ?_; (try simp [c0, c2, c3, c4]))
  | fail)
     (refine EndOK.val (.inr rfl) ?_; simp [zaA, zae, zar, Tryz.results113])
    ·rw [if_neg c4, zbh]
     (refine Fun.of_body Tryz.func113 rfl (by simp) fun Γ hn => ?_); simp only [entry, ziC, ziN, maC, maN, oA, Tryz.ntmps113]
     repeat' (first
  | ((first | refine zag ?_ | refine zaj ?_ | refine zah ?_ | refine zai ?_ | refine zat ?_ | fail); simp [c0, c2, c3, c4])
  | ((first | refine zaq ?_ | refine zao ?_ | fail); simp only [zap])
  | (refine CallP.fE (hit) (by first | rfl | fail) (by first | simp [c0, c2, c3, c4] <;> rfl | fail) ?_; (try simp [c0, c2, c3, c4]))
  | fail)
     (refine EndOK.val (.inr rfl) ?_; simp [zaA, zae, zar, Tryz.results113])
theorem zmh (s : W8) : Fun Tryz.prog 61 [.u (.str s)] (· = if 2000 < s.length then .tup [.u (.str []), .u (.int .i64 6)] else .tup [.u (.str s), .u (.int .i64 0)]) := by
 by_cases h1 : 2000 < s.length
 ·have h2 : (2000 : Int) < s.length := by omega
  rw [if_pos h1]
  (refine Fun.of_body Tryz.func61 rfl (by simp) fun Γ hn => ?_); simp only [entry, ziC, ziN, maC, maN, oA, Tryz.ntmps61]
  repeat' (first
  | ((first | refine zag ?_ | refine zaj ?_ | refine zah ?_ | refine zai ?_ | fail); simp [h2])
  | (refine zaq ?_; simp only [zap])
  | fail)
  (refine EndOK.val (.inr rfl) ?_; simp [zaA, zae, zar, Tryz.results61])
 ·have h2 : ¬ (2000 : Int) < s.length := by omega
  rw [if_neg h1]
  (refine Fun.of_body Tryz.func61 rfl (by simp) fun Γ hn => ?_); simp only [entry, ziC, ziN, maC, maN, oA, Tryz.ntmps61]
  repeat' (first
  | ((first | refine zag ?_ | refine zaj ?_ | refine zah ?_ | refine zai ?_ | fail); simp [h2])
  | ((first | refine zaq ?_ | refine zao ?_ | fail); simp only [zap])
  | fail)
  (refine EndOK.val (.inr rfl) ?_; simp [zaA, zae, zar, Tryz.results61])
abbrev zmx (e : Exp) : Prop := ∀ least : Int, Fun Tryz.prog 59 [.u (.agg e.row), .u (.int .i64 least)] (· = .u (.str (txt e least)))
theorem zea (op n u : Int) (s : W8) (args : List Exp) (i : Nat) (a : Exp) (least : Int) (ha : args[i]? = some a) (h : zmx a) :
  Fun Tryz.prog 112 [.u (.int .i64 i), .u (.int .i64 least), .u (.row [.int .i64 op, .int .i64 n, .int .i64 u, .str s, .sl (args.map Exp.row)] 0)] (· = .u (.str (txt a least))) := by
 have hs := h least;rw [Exp.row_eq] at hs;generalize txt a least = T at *;have hi := (lGE.1 ha).1
 (refine Fun.of_body Tryz.func112 rfl (by simp) fun Γ hn => ?_); simp only [entry, ziC, ziN, maC, maN, oA, Tryz.ntmps112]
 have hlt : (i : Int) < args.length := by omega
 repeat' (first
  | ((first | refine zag ?_ | refine zaj ?_ | refine zah ?_ | fail); simp [ha, hlt, Exp.row_eq])
  | (refine zaq ?_; simp only [zap])
  | (refine CallP.fE (hs) (by first | rfl | fail) (by first | simp [ha, hlt, Exp.row_eq] <;> rfl | fail) ?_; (try simp [ha, hlt, Exp.row_eq]))
  | fail)
 (refine EndOK.val (.inr rfl) ?_; simp [zaA, zae, zar, Tryz.results112])
theorem zpN (o : Opr) (op n u : Int) (s : W8) (g : U) : Fun Tryz.prog 114 (zrN o :: [U.row [.int .i64 op, .int .i64 n, .int .i64 u, .str s, g] 0].map .u) (· = .u (.bool (decide (o.op = op)))) := by
 simp only [List.map_cons, List.map_nil, zrN]
 (refine Fun.of_body Tryz.func114 rfl (by simp) fun Γ hn => ?_); simp only [entry, ziC, ziN, maC, maN, oA, Tryz.ntmps114]
 repeat' (first
  | ((first | refine zag ?_ | refine zaj ?_ | refine zah ?_ | fail); simp)
  | (refine zaq ?_; simp only [zap])
  | fail)
 (refine EndOK.val (.inr rfl) ?_; simp [zaA, zae, zar, Tryz.results114])
theorem zpO (op n u : Int) (s : W8) (g : U) : Fun Tryz.prog 96 [.u (zmW oprs), .fnc (.func 114) [.u (.row [.int .i64 op, .int .i64 n, .int .i64 u, .str s, g] 0)]]
  (· = .u (.int .i64 (zhV (fun o => decide (o.op = op)) oprs 0))) :=
 zif oprs 114 [U.row [.int .i64 op, .int .i64 n, .int .i64 u, .str s, g] 0] (fun o => decide (o.op = op)) (fun o _ => zpN o op n u s g) rfl (fun o => rfl)
theorem znW {d : Nat} {e : Exp} (he : zaP d e = true) (hd : d <= 12) (h0 : Fun Tryz.prog 59 [.u (.agg e.row), .u (.int .i64 0)] (· = .u (.str (txt e 0)))) {least : Int} (hl : zeS e.op < least) (h00 : ¬ zeS e.op < 0) :
  Fun Tryz.prog 59 [.u (.agg e.row), .u (.int .i64 least)] (· = .u (.str (txt e least))) := by
 have hf := zmg e;have hlen := zcE he hd 0;rw [zgX he hl];rw [zda h00] at h0 hlen;rw [Exp.row_eq] at *;generalize zbU (zcc e) = T at *;generalize zeS e.op = F at *;have hT : T.length <= 9223372036854775000 := by omega
 (refine Fun.of_body Tryz.func59 rfl (by simp) fun Γ hn => ?_); simp only [entry, ziC, ziN, maC, maN, oA, Tryz.ntmps59]
 repeat' (first
  | ((first | refine zag ?_ | refine zaj ?_ | fail); simp [hl])
  | (refine ⟨by omega, ?_⟩)
  | ((first | refine zah ?_ | refine zai ?_ | fail); simp [hl])
  | (refine zaq ?_; simp only [zap])
  | (refine CallP.fE (hf) (by first | rfl | fail) (by first | simp [hl] <;> rfl | fail) ?_; (try simp [hl]))
  | (refine CallP.fE (h0) (by first | rfl | fail) (by first | simp [hl] <;> rfl | fail) ?_; (try simp [hl]))
  | fail)
 (refine EndOK.val (.inr rfl) ?_; simp [zaA, zae, zar, Tryz.results59])
theorem zjA : ∀ (d : Nat), d <= 12 -> ∀ e : Exp, zaP d e = true -> ∀ least : Int, ¬ zeS e.op < least -> (∀ x ∈ e.args, zaP (d - 1) x = true -> zmx x) ->
  Fun Tryz.prog 59 [.u (.agg e.row), .u (.int .i64 least)] (· = .u (.str (zbU (zcc e))))
 | 0, _, e, h, _, _, _ => by rw [zaP] at h; cases h
 | d + 1, hd, .mk op n u s args, h, least, hl, ih => by
  have hf := zmg (.mk op n u s args);simp only [Exp.op] at hl hf;rw [Exp.row] at hf ⊢;rcases zfL h with ⟨rfl, rfl, rfl, hn⟩ | ⟨rfl, rfl, rfl, rfl, hn⟩ | ⟨rfl, rfl, rfl, ha, ⟨rfl, hl3⟩ | ⟨rfl, hl3⟩ | ⟨g0, g1, g12, g13, g2, g3, hl3⟩⟩
  ·have h1 := zm2 n u hn;rw [zcc, zfM, if_pos rfl];rw [Exp.row] at h1;simp only [List.map_nil] at *;generalize zbU (zgR n u) = T at *
   (refine Fun.of_body Tryz.func59 rfl (by simp) fun Γ hn => ?_); simp only [entry, ziC, ziN, maC, maN, oA, Tryz.ntmps59]
   repeat' (first
  | ((first | refine zag ?_ | refine zaj ?_ | refine zah ?_ | refine zai ?_ | refine zat ?_ | fail); simp [hl])
  | ((first | refine zaq ?_ | refine zao ?_ | fail); simp only [zap])
  | (refine CallP.fE (hf) (by first | rfl | fail) (by first | simp [hl] <;> rfl | fail) ?_; (try simp [hl]))
  | (refine CallP.fE (h1) (by first | rfl | fail) (by first | simp [hl] <;> rfl | fail) ?_; (try simp [hl]))
  | fail)
   (refine EndOK.val (.inr rfl) ?_; simp [zaA, zae, zar, Tryz.results59])
  ·rw [zcc, zfM, if_neg (by decide), if_pos rfl, zbh];simp only [List.map_nil] at *
   (refine Fun.of_body Tryz.func59 rfl (by simp) fun Γ hn => ?_); simp only [entry, ziC, ziN, maC, maN, oA, Tryz.ntmps59]
   repeat' (first
  | ((first | refine zag ?_ | refine zaj ?_ | refine zah ?_ | refine zai ?_ | refine zat ?_ | fail); simp [hl])
  | ((first | refine zaq ?_ | refine zao ?_ | fail); simp only [zap])
  | (refine CallP.fE (hf) (by first | rfl | fail) (by first | simp [hl] <;> rfl | fail) ?_; (try simp [hl]))
  | fail)
   (refine EndOK.val (.inr rfl) ?_; simp [zaA, zae, zar, Tryz.results59])
  ·obtain ⟨a, rfl⟩ := zre hl3;have h1 := ha a (by simp);have hb := zcE h1 (by omega) 3;have k1 := zea 12 0 0 [] [a] 0 a 3 rfl (ih a (by simp [Exp.args]) h1);rw [zl7 h1];simp only [List.map_cons, List.map_nil] at *;generalize txt a 3 = T at *;have hT : T.length <= 9223372036854775000 := by omega
   (refine Fun.of_body Tryz.func59 rfl (by simp) fun Γ hn => ?_); simp only [entry, ziC, ziN, maC, maN, oA, Tryz.ntmps59]
   repeat' (first
  | ((first | refine zag ?_ | refine zaj ?_ | fail); simp [hl])
  | (refine ⟨by omega, ?_⟩)
  | ((first | refine zah ?_ | refine zai ?_ | refine zat ?_ | fail); simp [hl])
  | ((first | refine zaq ?_ | refine zao ?_ | fail); simp only [zap])
  | (refine CallP.fE (hf) (by first | rfl | fail) (by first | simp [hl] <;> rfl | fail) ?_; (try simp [hl]))
  | (refine CallP.fE (k1) (by first | rfl | fail) (by first | simp [hl] <;> rfl | fail) ?_; (try simp [hl]))
  | fail)
   (refine EndOK.val (.inr rfl) ?_; simp [zaA, zae, zar, Tryz.results59])
  ·obtain ⟨a, b, c, rfl⟩ := zrc hl3;have h1 := ha a (by simp);have h2 := ha b (by simp);have h3 := ha c (by simp);have hb1 := zcE h1 (by omega) 0;have hb2 := zcE h2 (by omega) 0;have hb3 := zcE h3 (by omega) 0;have k1 := zea 13 0 0 [] [a, b, c] 0 a 0 rfl (ih a (by simp [Exp.args]) h1);have k2 := zea 13 0 0 [] [a, b, c] 1 b 0 rfl (ih b (by simp [Exp.args]) h2);have k3 := zea 13 0 0 [] [a, b, c] 2 c 0 rfl (ih c (by simp [Exp.args]) h3);rw [zoO h1 h2 h3];simp only [List.map_cons, List.map_nil] at *;generalize txt a 0 = T1 at *;generalize txt b 0 = T2 at *;generalize txt c 0 = T3 at *
   (refine Fun.of_body Tryz.func59 rfl (by simp) fun Γ hn => ?_); simp only [entry, ziC, ziN, maC, maN, oA, Tryz.ntmps59]
   repeat' (first
  | ((first | refine zag ?_ | refine zaj ?_ | fail); simp [hl])
  | (refine ⟨by omega, ?_⟩)
  | ((first | refine zah ?_ | refine zai ?_ | refine zat ?_ | fail); simp [hl])
  | ((first | refine zaq ?_ | refine zao ?_ | fail); simp only [zap])
  | (refine CallP.fE (hf) (by first | rfl | fail) (by first | simp [hl] <;> rfl | fail) ?_; (try simp [hl]))
  | (refine CallP.fE (k1) (by first | rfl | fail) (by first | simp [hl] <;> rfl | fail) ?_; (try simp [hl]))
  | (refine CallP.fE (k2) (by first | rfl | fail) (by first | simp [hl] <;> rfl | fail) ?_; (try simp [hl]))
  | (refine CallP.fE (k3) (by first | rfl | fail) (by first | simp [hl] <;> rfl | fail) ?_; (try simp [hl]))
  | fail)
   (refine EndOK.val (.inr rfl) ?_; simp [zaA, zae, zar, Tryz.results59])
  ·obtain ⟨a, b, rfl⟩ := zrd hl3;have h1 := ha a (by simp);have h2 := ha b (by simp);have ia := ih a (by simp [Exp.args]) h1;have ib := ih b (by simp [Exp.args]) h2;by_cases h6 : op = 6
   ·subst h6;have hb1 := zcE h1 (by omega) 0;have hb2 := zcE h2 (by omega) 0;have k1 := zea 6 0 0 [] [a, b] 0 a 0 rfl ia;have k2 := zea 6 0 0 [] [a, b] 1 b 0 rfl ib;rw [zl8 h1 h2];simp only [List.map_cons, List.map_nil] at *;generalize txt a 0 = T1 at *;generalize txt b 0 = T2 at *
    (refine Fun.of_body Tryz.func59 rfl (by simp) fun Γ hn => ?_); simp only [entry, ziC, ziN, maC, maN, oA, Tryz.ntmps59]
    repeat' (first
  | ((first | refine zag ?_ | refine zaj ?_ | fail); simp [hl])
  | (refine ⟨by omega, ?_⟩)
  | ((first | refine zah ?_ | refine zai ?_ | refine zat ?_ | fail); simp [hl])
  | ((first | refine zaq ?_ | refine zao ?_ | fail); simp only [zap])
  | (refine CallP.fE (hf) (by first | rfl | fail) (by first | simp [hl] <;> rfl | fail) ?_; (try simp [hl]))
  | (refine CallP.fE (k1) (by first | rfl | fail) (by first | simp [hl] <;> rfl | fail) ?_; (try simp [hl]))
  | (refine CallP.fE (k2) (by first | rfl | fail) (by first | simp [hl] <;> rfl | fail) ?_; (try simp [hl]))
  | fail)
    (refine EndOK.val (.inr rfl) ?_; simp [zaA, zae, zar, Tryz.results59])
   ·by_cases h7 : op = 7
    ·subst h7;have hb1 := zcE h1 (by omega) 0;have hb2 := zcE h2 (by omega) 0;have k1 := zea 7 0 0 [] [a, b] 0 a 0 rfl ia;have k2 := zea 7 0 0 [] [a, b] 1 b 0 rfl ib;rw [zl9 h1 h2];simp only [List.map_cons, List.map_nil] at *;generalize txt a 0 = T1 at *;generalize txt b 0 = T2 at *
     (refine Fun.of_body Tryz.func59 rfl (by simp) fun Γ hn => ?_); simp only [entry, ziC, ziN, maC, maN, oA, Tryz.ntmps59]
     repeat' (first
  | ((first | refine zag ?_ | refine zaj ?_ | fail); simp [hl])
  | (refine ⟨by omega, ?_⟩)
  | ((first | refine zah ?_ | refine zai ?_ | refine zat ?_ | fail); simp [hl])
  | ((first | refine zaq ?_ | refine zao ?_ | fail); simp only [zap])
  | (refine CallP.fE (hf) (by first | rfl | fail) (by first | simp [hl] <;> rfl | fail) ?_; (try simp [hl]))
  | (refine CallP.fE (k1) (by first | rfl | fail) (by first | simp [hl] <;> rfl | fail) ?_; (try simp [hl]))
  | (refine CallP.fE (k2) (by first | rfl | fail) (by first | simp [hl] <;> rfl | fail) ?_; (try simp [hl]))
  | fail)
     (refine EndOK.val (.inr rfl) ?_; simp [zaA, zae, zar, Tryz.results59])
    ·obtain ⟨o, ho, rfl⟩ := zoi (by omega) (by omega) h6 h7;have hop := zeB;have hfd : oprs.find? (fun x => decide (x.op = o.op)) = some o := by
      simp only [oprs, List.mem_cons, List.mem_nil_iff, or_false] at ho;rcases ho with rfl | rfl | rfl | rfl | rfl | rfl | rfl | rfl <;> rfl
     obtain ⟨j, hj1, hj2⟩ := (zf7 oprs 0).2 o hfd;have hix := zpO o.op 0 0 [] (.sl ([a, b].map Exp.row));rw [hj2] at hix;have hj0 : ¬ ((j : Int) < 0) := by omega
     have hjl : j < 8 := (lGE.1 hj1).1;rw [show (0 : Int) + j = (j : Int) by omega] at hix;have hfm : 0 <= o.form /\ o.form <= 6 := by
      simp only [oprs, List.mem_cons, List.mem_nil_iff, or_false] at ho;rcases ho with rfl | rfl | rfl | rfl | rfl | rfl | rfl | rfl <;> decide
     obtain ⟨hf0, hf6⟩ := hfm;have hot := zok ho;have hb1 := zcE h1 (by omega) (if o.form = 4 then 5 else o.form);have hb2 := zcE h2 (by omega) (o.form + 1);have k1 := zea o.op 0 0 [] [a, b] 0 a (if o.form = 4 then 5 else o.form) rfl ia;have k2 := zea o.op 0 0 [] [a, b] 1 b (o.form + 1) rfl ib;rw [zft ho h1 h2];simp only [List.map_cons, List.map_nil] at *;clear hfd hj2 ho;generalize hL : oprs = L at hop hix hj1;by_cases c4 : o.form = 4
     ·have e1 : o.form + 1 = 5 := by omega
      rw [if_pos c4] at k1 hb1 ⊢;rw [e1] at k2 hb2 ⊢;generalize txt a 5 = T1 at *;generalize txt b 5 = T2 at *
      (refine Fun.of_body Tryz.func59 rfl (by simp) fun Γ hn => ?_); simp only [entry, ziC, ziN, maC, maN, oA, Tryz.ntmps59]
      repeat' (first
  | ((first | refine zag ?_ | refine zaS rfl ?_ | refine zaj ?_ | fail); simp [hl, g0, g1, g12, g13, h6, h7, hj0, hj1, c4])
  | (refine ⟨by omega, ?_⟩)
  | ((first | refine zah ?_ | refine zai ?_ | fail); simp [hl, g0, g1, g12, g13, h6, h7, hj0, hj1, c4])
  | (refine za0 (hC _ (by kernel_rfl)) (hk _ ?_); clear hC hk C k; simp only [zap])
  | (refine za3 rfl (by kernel_rfl) (by first | (simp [hn]; done) | (simp [hn]; omega) | fail) fun C k hC hk => ?_; simp [hl, g0, g1, g12, g13, h6, h7, hj0, hj1, c4])
  | ((first | refine zat ?_ | refine zas ?_ | fail); simp [hl, g0, g1, g12, g13, h6, h7, hj0, hj1, c4])
  | ((first | refine zaq ?_ | refine zao ?_ | fail); simp only [zap])
  | (refine CallP.fE (hf) (by first | rfl | fail) (by first | simp [hl, g0, g1, g12, g13, h6, h7, hj0, hj1, c4] <;> rfl | fail) ?_; (try simp [hl, g0, g1, g12, g13, h6, h7, hj0, hj1, c4]))
  | (refine CallP.fE (hop) (by first | rfl | fail) (by first | simp [hl, g0, g1, g12, g13, h6, h7, hj0, hj1, c4] <;> rfl | fail) ?_; (try simp [hl, g0, g1, g12, g13, h6, h7, hj0, hj1, c4]))
  | (refine CallP.fE (hix) (by first | rfl | fail) (by first | simp [hl, g0, g1, g12, g13, h6, h7, hj0, hj1, c4] <;> rfl | fail) ?_; (try simp [hl, g0, g1, g12, g13, h6, h7, hj0, hj1, c4]))
  | (refine CallV.fun_ (k1) (by first | rfl | fail) (by first | simp [hl, g0, g1, g12, g13, h6, h7, hj0, hj1, c4] <;> rfl | fail) ?_ <;> (try simp [hl, g0, g1, g12, g13, h6, h7, hj0, hj1, c4]))
  | (refine CallV.fun_ (k2) (by first | rfl | fail) (by first | simp [hl, g0, g1, g12, g13, h6, h7, hj0, hj1, c4] <;> rfl | fail) ?_ <;> (try simp [hl, g0, g1, g12, g13, h6, h7, hj0, hj1, c4]))
  | fail)
      (refine EndOK.val (.inr rfl) ?_; simp [zaA, zae, zar, Tryz.results59])
     ·rw [if_neg c4] at k1 hb1 ⊢;generalize txt a o.form = T1 at *;generalize txt b (o.form + 1) = T2 at *
      (refine Fun.of_body Tryz.func59 rfl (by simp) fun Γ hn => ?_); simp only [entry, ziC, ziN, maC, maN, oA, Tryz.ntmps59]
      repeat' (first
  | ((first | refine zag ?_ | refine zaS rfl ?_ | refine zaj ?_ | fail); simp [hl, g0, g1, g12, g13, h6, h7, hj0, hj1, c4])
  | (refine ⟨by omega, ?_⟩)
  | ((first | refine zah ?_ | refine zai ?_ | fail); simp [hl, g0, g1, g12, g13, h6, h7, hj0, hj1, c4])
  | (refine za0 (hC _ (by kernel_rfl)) (hk _ ?_); clear hC hk C k; simp only [zap])
  | (refine za3 rfl (by kernel_rfl) (by first | (simp [hn]; done) | (simp [hn]; omega) | fail) fun C k hC hk => ?_; simp [hl, g0, g1, g12, g13, h6, h7, hj0, hj1, c4])
  | (refine zat ?_; simp [hl, g0, g1, g12, g13, h6, h7, hj0, hj1, c4])
  | ((first | refine zaq ?_ | refine zao ?_ | fail); simp only [zap])
  | (refine CallP.fE (hf) (by first | rfl | fail) (by first | simp [hl, g0, g1, g12, g13, h6, h7, hj0, hj1, c4] <;> rfl | fail) ?_; (try simp [hl, g0, g1, g12, g13, h6, h7, hj0, hj1, c4]))
  | (refine CallP.fE (hop) (by first | rfl | fail) (by first | simp [hl, g0, g1, g12, g13, h6, h7, hj0, hj1, c4] <;> rfl | fail) ?_; (try simp [hl, g0, g1, g12, g13, h6, h7, hj0, hj1, c4]))
  | (refine CallP.fE (hix) (by first | rfl | fail) (by first | simp [hl, g0, g1, g12, g13, h6, h7, hj0, hj1, c4] <;> rfl | fail) ?_; (try simp [hl, g0, g1, g12, g13, h6, h7, hj0, hj1, c4]))
  | (refine CallV.fun_ (k1) (by first | rfl | fail) (by first | simp [hl, g0, g1, g12, g13, h6, h7, hj0, hj1, c4] <;> rfl | fail) ?_ <;> (try simp [hl, g0, g1, g12, g13, h6, h7, hj0, hj1, c4]))
  | (refine CallV.fun_ (k2) (by first | rfl | fail) (by first | simp [hl, g0, g1, g12, g13, h6, h7, hj0, hj1, c4] <;> rfl | fail) ?_ <;> (try simp [hl, g0, g1, g12, g13, h6, h7, hj0, hj1, c4]))
  | fail)
      (refine EndOK.val (.inr rfl) ?_; simp [zaA, zae, zar, Tryz.results59])
theorem zgZ : ∀ (d : Nat), d <= 12 -> ∀ e : Exp, zaP d e = true -> zmx e
 | 0, _, e, h => by rw [zaP] at h; cases h
 | d + 1, hd, e, h => fun least => by
  have ih : ∀ x ∈ e.args, zaP (d + 1 - 1) x = true -> zmx x := fun x _ hx => zgZ d (by omega) x hx;have h00 : ¬ zeS e.op < 0 := by
   unfold zeS;split
   ·omega
   ·split
    ·omega
    ·split
     ·rename_i o ho;have := List.mem_of_find?_eq_some ho;simp only [oprs, List.mem_cons, List.mem_nil_iff, or_false] at this;rcases this with rfl | rfl | rfl | rfl | rfl | rfl | rfl | rfl <;> decide
     ·omega
  have h0 := zjA (d + 1) hd e h 0 h00 ih;by_cases hl : zeS e.op < least
  ·exact znW h hd (by rw [zda h00]; exact h0) hl h00
  ·have := zjA (d + 1) hd e h least hl ih
   rwa [<- zda hl] at this
def zjM (e : Exp) : W8 × Int := if zaP 12 e = true then (if 2000 < (txt e 0).length then ([], 6) else (txt e 0, 0)) else ([], 1)
theorem zjN (e : Exp) : Fun Tryz.prog 21 [.u (.agg e.row)] (· = .tup [.u (.str (zjM e).1), .u (.int .i64 (zjM e).2)]) := by
 have h1 : Fun Tryz.prog 25 [.u (.agg e.row)] (· = .u (.bool (zaP 12 e))) := by rw [Exp.row_eq]; exact zdV e
 unfold zjM;cases hr : zaP 12 e with
 | false =>
  rw [hr] at h1;rw [if_neg (by simp)];rw [Exp.row_eq] at *
  (refine Fun.of_body Tryz.func21 rfl (by simp) fun Γ hn => ?_); simp only [entry, ziC, ziN, maC, maN, oA, Tryz.ntmps21]
  repeat' (first
  | ((first | refine zag ?_ | refine zaj ?_ | refine zah ?_ | refine zai ?_ | fail); simp)
  | (refine zaq ?_; simp only [zap])
  | (refine CallP.fE (h1) (by first | rfl | fail) (by first | (simp; done) | (simp; rfl) | fail) ?_; (try simp))
  | fail)
  (refine EndOK.val (.inr rfl) ?_; simp [zaA, zae, zar, Tryz.results21])
 | true =>
  have h2 := zgZ 12 (Nat.le_refl _) e hr 0;have h3 := zmh (txt e 0);rw [hr] at h1;rw [if_pos rfl];rw [Exp.row_eq] at *;generalize txt e 0 = T at *;by_cases hl : 2000 < T.length
  ·rw [if_pos hl] at h3 ⊢
   (refine Fun.of_body Tryz.func21 rfl (by simp) fun Γ hn => ?_); simp only [entry, ziC, ziN, maC, maN, oA, Tryz.ntmps21]
   repeat' (first
  | ((first | refine zag ?_ | refine zaj ?_ | refine zah ?_ | refine zai ?_ | fail); simp)
  | ((first | refine zaq ?_ | refine zao ?_ | fail); simp only [zap])
  | (refine CallP.fE (h1) (by first | rfl | fail) (by first | (simp; done) | (simp; rfl) | fail) ?_; (try simp))
  | (refine CallP.fE (h2) (by first | rfl | fail) (by first | (simp; done) | (simp; rfl) | fail) ?_; (try simp))
  | (refine CallP.fE (h3) (by first | rfl | fail) (by first | (simp; done) | (simp; rfl) | fail) ?_; (try simp))
  | fail)
   (refine EndOK.val (.inr rfl) ?_; simp [zaA, zae, zar, Tryz.results21])
  ·rw [if_neg hl] at h3 ⊢
   (refine Fun.of_body Tryz.func21 rfl (by simp) fun Γ hn => ?_); simp only [entry, ziC, ziN, maC, maN, oA, Tryz.ntmps21]
   repeat' (first
  | ((first | refine zag ?_ | refine zaj ?_ | refine zah ?_ | refine zai ?_ | fail); simp)
  | ((first | refine zaq ?_ | refine zao ?_ | fail); simp only [zap])
  | (refine CallP.fE (h1) (by first | rfl | fail) (by first | (simp; done) | (simp; rfl) | fail) ?_; (try simp))
  | (refine CallP.fE (h2) (by first | rfl | fail) (by first | (simp; done) | (simp; rfl) | fail) ?_; (try simp))
  | (refine CallP.fE (h3) (by first | rfl | fail) (by first | (simp; done) | (simp; rfl) | fail) ?_; (try simp))
  | fail)
   (refine EndOK.val (.inr rfl) ?_; simp [zaA, zae, zar, Tryz.results21])
abbrev zdA (a b : Exp) : Prop := Fun Tryz.prog 28 [.u (.agg a.row), .u (.agg b.row)] (· = .u (.bool (eqB a b)))
theorem znt (A B : List Exp) (h : ∀ a ∈ A, ∀ b, zdA a b) : Fun Tryz.prog 73 [.u (.sl (A.map Exp.row)), .u (.sl (B.map Exp.row)), .fnc (.func 28) []] (· = .u (.bool (eqB A B))) := by
 by_cases hl : A.length = B.length
 ·have hl' : (A.length : Int) = B.length := by omega
  (refine Fun.of_body Tryz.func73 rfl (by simp) fun Γ hn => ?_); simp only [entry, ziC, ziN, maC, maN, oA, Tryz.ntmps73]
  refine zji (x := 0) rfl fun hll => ?_;simp at hll
  repeat' (first
  | ((first | refine zag ?_ | refine zaj ?_ | refine zah ?_ | refine zai ?_ | refine zat ?_ | fail); simp [hl, hl'])
  | (refine zao ?_; simp only [zap])
  | fail)
  refine zcT (α := { i : Nat // i <= A.length /\ A.take i = B.take i }) [0, 1, 2, 6, 15, 16] (fun x => [(17, .u (.int .i64 x.1))]) (fun x => []) 0 (fun x => A.length - x.1) ⟨0, by omega, by simp⟩ ?_ ?_
  ·exact (Wk.cut rfl (by simp [hn, St.lp]) (by simp [wkO, St.lp, zaa, getK, Ob.under, D.under, zad, zaf, hl]) (by simp [wkU, St.lp, zan, zaa, getK, D.under, hl]) (by simp [wkE, St.lp, zan, zaa, getK, hl] <;> (try (intros; simp_all; done)) <;> (try (intros; omega)) <;> (try grind)))
  rintro ⟨i, hi, hb⟩;simp [St.lp, St.only, zan, zaa, getK];rcases hx : A[i]? with _ | a
  ·have hge : A.length <= i := by simpa using hx
   obtain rfl : i = A.length := by omega
   rw [List.take_of_length_le (Nat.le_refl _), List.take_of_length_le (by omega)] at hb;subst hb;rw [zfc]
   repeat' (first
  | ((first | refine zag ?_ | refine zaj ?_ | refine zah ?_ | fail); simp [hx, hl])
  | (refine zaq ?_; simp only [zap])
  | (refine za9 ?_; simp [zap])
  | fail)
   (refine EndOK.val (.inr rfl) ?_; simp [zaA, zae, zar, Tryz.results73])
  ·have hlt : i < A.length := (lGE.1 hx).1;have hlt2 : i < B.length := by omega
   obtain ⟨b, hy⟩ : ∃ b, B[i]? = some b := ⟨_, List.getElem?_eq_getElem hlt2⟩;have hi2 : (i : Int) < B.length := by omega
   have h1 : zdA a b := h a (List.mem_of_getElem? hx) b;unfold zdA at h1;by_cases hab : a = b
   ·rw [zcD.2 hab] at h1;rw [Exp.row_eq, Exp.row_eq] at h1
    repeat' (first
  | ((first | refine zag ?_ | refine zaj ?_ | fail); simp [hx, hy, hi2, Exp.row_eq])
  | (refine ⟨by omega, ?_⟩)
  | ((first | refine zah ?_ | refine zai ?_ | refine zas ?_ | fail); simp [hx, hy, hi2, Exp.row_eq])
  | (refine zao ?_; simp only [zap])
  | (refine CallP.fE (h1) (by first | rfl | fail) (by first | simp [hx, hy, hi2, Exp.row_eq] <;> rfl | fail) ?_; (try simp [hx, hy, hi2, Exp.row_eq]))
  | fail)
    have hsn : A.take (i + 1) = B.take (i + 1) := by
     rw [List.take_succ_eq_append_getElem hlt, List.take_succ_eq_append_getElem hlt2, hb, (lGE.1 hx).2, (lGE.1 hy).2, hab]
    refine LoopW.next ⟨i + 1, by omega, hsn⟩ (by simp; omega) ?_
    exact (Wk.cut rfl (by simp [hn, St.lp]) (by simp [wkO, St.lp, zaa, getK, Ob.under, D.under, zad, zaf, hl]) (by simp [wkU, St.lp, zan, zaa, getK, D.under, hl]) (by simp [wkE, St.lp, zan, zaa, getK, hl] <;> (try (intros; simp_all; done)) <;> (try (intros; omega)) <;> (try grind)))
   ·rw [zek hab] at h1;rw [Exp.row_eq, Exp.row_eq] at h1;have hne : A ≠ B := fun e => by subst e; rw [hx] at hy; cases hy; exact hab rfl
    rw [zek hne]
    repeat' (first
  | ((first | refine zag ?_ | refine zaj ?_ | refine zah ?_ | refine zai ?_ | fail); simp [hx, hy, hi2, Exp.row_eq])
  | ((first | refine zaq ?_ | refine zao ?_ | fail); simp only [zap])
  | (refine CallP.fE (h1) (by first | rfl | fail) (by first | simp [hx, hy, hi2, Exp.row_eq] <;> rfl | fail) ?_; (try simp [hx, hy, hi2, Exp.row_eq]))
  | fail)
    (refine EndOK.val (.inr rfl) ?_; simp [zaA, zae, zar, Tryz.results73])
 ·have hl' : ¬ (A.length : Int) = B.length := by omega
  rw [zek (fun e => hl (by rw [e]))]
  (refine Fun.of_body Tryz.func73 rfl (by simp) fun Γ hn => ?_); simp only [entry, ziC, ziN, maC, maN, oA, Tryz.ntmps73]
  repeat' (first
  | ((first | refine zag ?_ | refine zaj ?_ | refine zah ?_ | refine zai ?_ | fail); simp [hl, hl'])
  | (refine zaq ?_; simp only [zap])
  | fail)
  (refine EndOK.val (.inr rfl) ?_; simp [zaA, zae, zar, Tryz.results73])
theorem zpE : ∀ (n : Nat) (a b : Exp), SizeOf.sizeOf a <= n -> zdA a b := by
 intro n
 induction n with
 | zero =>
  intro a b h;cases a with
  | mk op n u s args => simp only [Exp.mk.sizeOf_spec] at h; omega
 | succ n ih =>
  intro a b hs;have h1 := znt a.args b.args (fun x hx y => ih x y (by have := Exp.zeK hx; omega));unfold zdA;have key : ∀ B : Bool, (B = true ↔ a = b) -> eqB a b = B := fun B h => by
   cases B with
   | true => exact zcD.2 (h.1 rfl)
   | false => exact zek fun e => by have := h.2 e; cases this
  have hmk : a = b ↔ a.op = b.op /\ a.n = b.n /\ a.unit = b.unit /\ a.s = b.s /\ a.args = b.args := by
   cases a; cases b;simp only [Exp.op, Exp.n, Exp.unit, Exp.s, Exp.args, Exp.mk.injEq]
  rw [Exp.row_eq, Exp.row_eq b];by_cases c1 : a.op = b.op
  ·by_cases c2 : a.n = b.n
   ·by_cases c3 : a.unit = b.unit
    ·by_cases c4 : a.s = b.s
     ·rw [key (eqB a.args b.args) (by rw [zcD, hmk]; exact ⟨fun h => ⟨c1, c2, c3, c4, h⟩, fun h => h.2.2.2.2⟩)]
      (refine Fun.of_body Tryz.func28 rfl (by simp) fun Γ hn => ?_); simp only [entry, ziC, ziN, maC, maN, oA, Tryz.ntmps28]
      repeat' (first
  | ((first | refine zag ?_ | refine zaj ?_ | refine zah ?_ | fail); simp [c1, c2, c3, c4])
  | (refine zaq ?_; simp only [zap])
  | (refine CallP.fE (h1) (by first | rfl | fail) (by first | simp [c1, c2, c3, c4] <;> rfl | fail) ?_; (try simp [c1, c2, c3, c4]))
  | fail)
      (refine EndOK.val (.inr rfl) ?_; simp [zaA, zae, zar, Tryz.results28])
     ·rw [key false (by rw [hmk]; simp [c4])]
      (refine Fun.of_body Tryz.func28 rfl (by simp) fun Γ hn => ?_); simp only [entry, ziC, ziN, maC, maN, oA, Tryz.ntmps28]
      repeat' (first
  | ((first | refine zag ?_ | refine zaj ?_ | refine zah ?_ | fail); simp [c1, c2, c3, c4])
  | (refine zaq ?_; simp only [zap])
  | fail)
      (refine EndOK.val (.inr rfl) ?_; simp [zaA, zae, zar, Tryz.results28])
    ·rw [key false (by rw [hmk]; simp [c3])]
     (refine Fun.of_body Tryz.func28 rfl (by simp) fun Γ hn => ?_); simp only [entry, ziC, ziN, maC, maN, oA, Tryz.ntmps28]
     repeat' (first
  | ((first | refine zag ?_ | refine zaj ?_ | refine zah ?_ | fail); simp [c1, c2, c3])
  | (refine zaq ?_; simp only [zap])
  | fail)
     (refine EndOK.val (.inr rfl) ?_; simp [zaA, zae, zar, Tryz.results28])
   ·rw [key false (by rw [hmk]; simp [c2])]
    (refine Fun.of_body Tryz.func28 rfl (by simp) fun Γ hn => ?_); simp only [entry, ziC, ziN, maC, maN, oA, Tryz.ntmps28]
    repeat' (first
  | ((first | refine zag ?_ | refine zaj ?_ | refine zah ?_ | fail); simp [c1, c2])
  | (refine zaq ?_; simp only [zap])
  | fail)
    (refine EndOK.val (.inr rfl) ?_; simp [zaA, zae, zar, Tryz.results28])
  ·rw [key false (by rw [hmk]; simp [c1])]
   (refine Fun.of_body Tryz.func28 rfl (by simp) fun Γ hn => ?_); simp only [entry, ziC, ziN, maC, maN, oA, Tryz.ntmps28]
   repeat' (first
  | ((first | refine zag ?_ | refine zaj ?_ | refine zah ?_ | fail); simp [c1])
  | (refine zaq ?_; simp only [zap])
  | fail)
   (refine EndOK.val (.inr rfl) ?_; simp [zaA, zae, zar, Tryz.results28])
theorem zcl (a b : Exp) : zdA a b := zpE (SizeOf.sizeOf a) a b (Nat.le_refl _)
theorem zmG (x y : Let) : Fun Tryz.prog 72 [zoM x, zoM y] (· = .u (.bool (eqB x y))) := by
 have h1 := zcl x.body y.body;unfold zdA at h1;rw [Exp.row_eq, Exp.row_eq] at h1;simp only [zoM];have hmk : x = y ↔ x.name = y.name /\ x.body = y.body := by cases x; cases y; simp
 by_cases c1 : x.name = y.name
 ·have e : eqB x y = eqB x.body y.body := by
   by_cases c2 : x.body = y.body
   ·rw [zcD.2 c2, zcD.2 (hmk.2 ⟨c1, c2⟩)]
   ·rw [zek c2, zek fun h => c2 (hmk.1 h).2]
  rw [e]
  (refine Fun.of_body Tryz.func72 rfl (by simp) fun Γ hn => ?_); simp only [entry, ziC, ziN, maC, maN, oA, Tryz.ntmps72]
  repeat' (first
  | ((first | refine zag ?_ | refine zaj ?_ | refine zah ?_ | fail); simp [c1])
  | (refine zaq ?_; simp only [zap])
  | (refine CallP.fE (h1) (by first | rfl | fail) (by first | simp [c1] <;> rfl | fail) ?_; (try simp [c1]))
  | fail)
  (refine EndOK.val (.inr rfl) ?_; simp [zaA, zae, zar, Tryz.results72])
 ·rw [zek fun h => c1 (hmk.1 h).1]
  (refine Fun.of_body Tryz.func72 rfl (by simp) fun Γ hn => ?_); simp only [entry, ziC, ziN, maC, maN, oA, Tryz.ntmps72]
  repeat' (first
  | ((first | refine zag ?_ | refine zaj ?_ | refine zah ?_ | fail); simp [c1])
  | (refine zaq ?_; simp only [zap])
  | fail)
  (refine EndOK.val (.inr rfl) ?_; simp [zaA, zae, zar, Tryz.results72])
theorem zns (A B : List Let) : Fun Tryz.prog 71 [.u (zfO A), .u (zfO B), .fnc (.func 72) []] (· = .u (.bool (eqB A B))) := by
 simp only [zfO];by_cases hl : A.length = B.length
 ·have hl' : (A.length : Int) = B.length := by omega
  (refine Fun.of_body Tryz.func71 rfl (by simp) fun Γ hn => ?_); simp only [entry, ziC, ziN, maC, maN, oA, Tryz.ntmps71]
  refine zji (x := 0) rfl fun hll => ?_;simp at hll
  repeat' (first
  | ((first | refine zag ?_ | refine zaj ?_ | refine zah ?_ | refine zai ?_ | refine zat ?_ | fail); simp [hl, hl'])
  | (refine zao ?_; simp only [zap])
  | fail)
  refine zcT (α := { i : Nat // i <= A.length /\ A.take i = B.take i }) [0, 1, 2, 6, 15, 16] (fun x => [(17, .u (.int .i64 x.1))]) (fun x => []) 0 (fun x => A.length - x.1) ⟨0, by omega, by simp⟩ ?_ ?_
  ·exact (Wk.cut rfl (by simp [hn, St.lp]) (by simp [wkO, St.lp, zaa, getK, Ob.under, D.under, zad, zaf, hl]) (by simp [wkU, St.lp, zan, zaa, getK, D.under, hl]) (by simp [wkE, St.lp, zan, zaa, getK, hl] <;> (try (intros; simp_all; done)) <;> (try (intros; omega)) <;> (try grind)))
  rintro ⟨i, hi, hb⟩;simp [St.lp, St.only, zan, zaa, getK];rcases hx : A[i]? with _ | a
  ·have hge : A.length <= i := by simpa using hx
   obtain rfl : i = A.length := by omega
   rw [List.take_of_length_le (Nat.le_refl _), List.take_of_length_le (by omega)] at hb;subst hb;rw [zfc]
   repeat' (first
  | ((first | refine zag ?_ | refine zaj ?_ | refine zah ?_ | fail); simp [hx, hl])
  | (refine zaq ?_; simp only [zap])
  | (refine za9 ?_; simp [zap])
  | fail)
   (refine EndOK.val (.inr rfl) ?_; simp [zaA, zae, zar, Tryz.results71])
  ·have hlt : i < A.length := (lGE.1 hx).1;have hlt2 : i < B.length := by omega
   obtain ⟨b, hy⟩ : ∃ b, B[i]? = some b := ⟨_, List.getElem?_eq_getElem hlt2⟩;have hi2 : (i : Int) < B.length := by omega
   have h1 := zmG a b;simp only [zoM] at h1;by_cases hab : a = b
   ·rw [zcD.2 hab] at h1
    repeat' (first
  | ((first | refine zag ?_ | refine zaj ?_ | fail); simp [hx, hy, hi2])
  | (refine ⟨by omega, ?_⟩)
  | ((first | refine zah ?_ | refine zai ?_ | refine zas ?_ | fail); simp [hx, hy, hi2])
  | (refine zao ?_; simp only [zap])
  | (refine CallP.fE (h1) (by first | rfl | fail) (by first | simp [hx, hy, hi2] <;> rfl | fail) ?_; (try simp [hx, hy, hi2]))
  | fail)
    have hsn : A.take (i + 1) = B.take (i + 1) := by
     rw [List.take_succ_eq_append_getElem hlt, List.take_succ_eq_append_getElem hlt2, hb, (lGE.1 hx).2, (lGE.1 hy).2, hab]
    refine LoopW.next ⟨i + 1, by omega, hsn⟩ (by simp; omega) ?_
    exact (Wk.cut rfl (by simp [hn, St.lp]) (by simp [wkO, St.lp, zaa, getK, Ob.under, D.under, zad, zaf, hl]) (by simp [wkU, St.lp, zan, zaa, getK, D.under, hl]) (by simp [wkE, St.lp, zan, zaa, getK, hl] <;> (try (intros; simp_all; done)) <;> (try (intros; omega)) <;> (try grind)))
   ·rw [zek hab] at h1;have hne : A ≠ B := fun e => by subst e; rw [hx] at hy; cases hy; exact hab rfl
    rw [zek hne]
    repeat' (first
  | ((first | refine zag ?_ | refine zaj ?_ | refine zah ?_ | refine zai ?_ | fail); simp [hx, hy, hi2])
  | ((first | refine zaq ?_ | refine zao ?_ | fail); simp only [zap])
  | (refine CallP.fE (h1) (by first | rfl | fail) (by first | simp [hx, hy, hi2] <;> rfl | fail) ?_; (try simp [hx, hy, hi2]))
  | fail)
    (refine EndOK.val (.inr rfl) ?_; simp [zaA, zae, zar, Tryz.results71])
 ·have hl' : ¬ (A.length : Int) = B.length := by omega
  rw [zek (fun e => hl (by rw [e]))]
  (refine Fun.of_body Tryz.func71 rfl (by simp) fun Γ hn => ?_); simp only [entry, ziC, ziN, maC, maN, oA, Tryz.ntmps71]
  repeat' (first
  | ((first | refine zag ?_ | refine zaj ?_ | refine zah ?_ | refine zai ?_ | fail); simp [hl, hl'])
  | (refine zaq ?_; simp only [zap])
  | fail)
  (refine EndOK.val (.inr rfl) ?_; simp [zaA, zae, zar, Tryz.results71])
theorem zjC (b : By) : Fun Tryz.prog 27 [.u (.agg (zbb b)), .u (.agg (zbb b))] (· = .u (.bool true)) := by
 have e0 := zns b.lets b.lets;have e1 : zdA b.due b.due := zcl _ _;have e2 : zdA b.fine b.fine := zcl _ _;have e3 : zdA b.pay b.pay := zcl _ _;have e4 : zdA b.cover b.cover := zcl _ _;have e5 : zdA b.hold b.hold := zcl _ _;unfold zdA at e1 e2 e3 e4 e5;rw [Exp.row_eq] at e1 e2 e3 e4 e5;rw [zfc] at e0 e1 e2 e3 e4 e5;simp only [zfO] at e0;unfold zbb
 (refine Fun.of_body Tryz.func27 rfl (by simp) fun Γ hn => ?_); simp only [entry, ziC, ziN, maC, maN, oA, Tryz.ntmps27]
 repeat' (first
  | ((first | refine zag ?_ | refine zaj ?_ | refine zah ?_ | fail); simp)
  | (refine zaq ?_; simp only [zap])
  | (refine CallP.fE (e0) (by first | rfl | fail) (by first | (simp; done) | (simp; rfl) | fail) ?_; (try simp))
  | (refine CallP.fE (e1) (by first | rfl | fail) (by first | (simp; done) | (simp; rfl) | fail) ?_; (try simp))
  | (refine CallP.fE (e2) (by first | rfl | fail) (by first | (simp; done) | (simp; rfl) | fail) ?_; (try simp))
  | (refine CallP.fE (e3) (by first | rfl | fail) (by first | (simp; done) | (simp; rfl) | fail) ?_; (try simp))
  | (refine CallP.fE (e4) (by first | rfl | fail) (by first | (simp; done) | (simp; rfl) | fail) ?_; (try simp))
  | (refine CallP.fE (e5) (by first | rfl | fail) (by first | (simp; done) | (simp; rfl) | fail) ?_; (try simp))
  | fail)
 (refine EndOK.val (.inr rfl) ?_; simp [zaA, zae, zar, Tryz.results27])
abbrev zcf : Ob := .box [.fnc (.func 52) [.ptr 1 0]]
abbrev zdn (j : Nat) (l : W8) : Ob := .box [.ptr 1 0, .vec j l.length]
abbrev zdm (l : W8) : Ob := .vec u8T 1 (zcA l)
def zse (j nx : Nat) (T : W8) (d : D) (o : List (Nat × Ob)) (n : Nat) : Prop := d = .tup [] /\ ∃ j', 3 <= j' /\ j' < n /\ nx <= n /\ o = [(2, zcf), (1, zdn j' T), (j', zdm T)]
def zcj (w : W8) (n : Int) (ws : List W8) : W8 := if n = 0 then [] else zca (w :: Lib.itoa n :: ws)
theorem zhs (l : W8) (ws : List W8) (j nx : Nat) (hj3 : 3 <= j) (hj : j < nx) (hlen : l.length + (zca ws).length <= 140737488355328) (hN : ws.length <= 140737488355328) :
  RetX Tryz.prog 52 [.u (.sl (ws.map fun w => [.str w])), .ptr 1 0] [(1, zdn j l), (j, zdm l)] nx
   (fun r o n => r = .val (.tup []) /\ o = [(1, zdn nx (l ++ zca ws)), (nx, zdm (l ++ zca ws))] /\ n = nx + 1) := zoy l ws 1 j nx (by omega) hj (by omega) hlen hN
theorem zdg (l w : W8) (n : Int) (ws : List W8) (j nx : Nat) (hj3 : 3 <= j) (hj : j < nx) (h0 : 0 <= n) (h1 : n <= 1099511627776) (hlen : l.length + (zcj w n ws).length <= 100000000000000) (hN : ws.length <= 1000) :
  RetX Tryz.prog 55 [.u (.str w), .u (.int .i64 n), .u (.sl (ws.map fun w => [.str w])), .ptr 2 0] [(2, zcf), (1, zdn j l), (j, zdm l)] nx
   (fun r o N => ∃ d, r = .val d /\ zse j nx (l ++ zcj w n ws) d o N) := by
 have hit := zmb n (by omega) (by omega);have h2 : 2 < nx := by omega
 have h2j : ¬ (2 : Nat) = j := by omega
 have h1j : ¬ (1 : Nat) = j := by omega
 have hj2 : ¬ j = 2 := by omega
 have hj1 : ¬ j = 1 := by omega
 have hx0 : ¬ nx = 0 := by omega
 have hx1 : ¬ nx = 1 := by omega
 have hx2 : ¬ nx = 2 := by omega
 have hjx : ¬ j = nx + 1 := by omega
 have hne := zaw h2;have hne1 := zaw (show 1 < nx by omega);have hnej := zaw hj;by_cases hz : n = 0
 ·rw [zcj, if_pos hz, List.append_nil]
  (refine RetX.of_bodyW Tryz.func55 rfl (by simp) fun Γ hn hpan => ?_); simp only [entry, ziC, ziN, maC, maN, oA, Tryz.ntmps55]
  repeat' (first
  | ((first | refine zag ?_ | refine zaj ?_ | refine zah ?_ | refine zai ?_ | fail); simp [hz])
  | (refine zao ?_; simp only [zap])
  | fail)
  (refine EndW.here ?_; (first | (refine EndOK.fin (.inr rfl) ?_) | (refine EndOK.fin (.inl rfl) ?_)); simp [zaA, zae, Tryz.results55, hne, hne1, hnej, h2j, h1j, hj2, hj1, hj, h2]; refine FinOK.cut [(2, zcf), (1, zdn j l), (j, zdm l)] (nx) (by simp [zaa, getK, zab, zac, Ob.under, D.under, zad, zaf, hne, hne1, hnej, h2j, h1j, hj2, hj1, hj, h2] <;> omega) (by simp [D.under]) (by simp [hn]) ?_; try simp)
  exact ⟨rfl, j, hj3, hj, Nat.le_refl _, rfl⟩
 ·rw [zcj, if_neg hz] at hlen ⊢;have hln := fun nx' (h : nx <= nx') => zhs l (w :: Lib.itoa n :: ws) j nx' hj3 (by omega) (by omega) (by simp; omega);simp only [List.map_cons] at hln
  (refine RetX.of_bodyW Tryz.func55 rfl (by simp) fun Γ hn hpan => ?_); simp only [entry, ziC, ziN, maC, maN, oA, Tryz.ntmps55]
  have hA : 2 + ws.length <= ws.length + 1 + 1 := by omega
  have hB : List.take (2 + ws.length) ([U.str w] :: [U.str (Lib.itoa n)] :: List.map (fun w => [U.str w]) ws) = [U.str w] :: [U.str (Lib.itoa n)] :: List.map (fun w => [U.str w]) ws := List.take_of_length_le (by simp; omega)
  skip
  repeat' (first
  | (refine zdD ?_; simp [hz, hne, hne1, hnej, h2j, h1j, hj2, hj1, hx0, hx1, hx2, hjx, hA, hB, zam, frzS, zaH])
  | (refine zeI rfl rfl (by decide +kernel) (by first | (simp [hn]; done) | (simp [hn]; omega) | fail) fun C k hC hk => ?_; simp [hz, hne, hne1, hnej, h2j, h1j, hj2, hj1, hx0, hx1, hx2, hjx, hA, hB, zam, frzS, zaH])
  | ((first | refine zag ?_ | refine zaS rfl ?_ | refine zbJ rfl ?_ | refine zaj ?_ | fail); simp [hz, hne, hne1, hnej, h2j, h1j, hj2, hj1, hx0, hx1, hx2, hjx, hA, hB, zam, frzS, zaH])
  | (refine ⟨by omega, ?_⟩)
  | ((first | refine zah ?_ | refine zai ?_ | fail); simp [hz, hne, hne1, hnej, h2j, h1j, hj2, hj1, hx0, hx1, hx2, hjx, hA, hB, zam, frzS, zaH])
  | (refine za0 (hC _ (zbP [2] (nx) (by simp <;> omega) (by simp <;> omega) (by apply Exists.intro; apply And.intro; (focus (repeat' (first | exact KF.nil | exact KL.nil | apply KF.cons | apply KL.cons 0 rfl | apply KL.cons 1 rfl | apply KL.cons 2 rfl | apply KL.cons 3 rfl | apply KL.cons 4 rfl | apply KL.cons 5 rfl | apply KL.cons 6 rfl | apply KL.cons 7 rfl | apply KL.cons 8 rfl | apply KL.cons 9 rfl))); kernel_rfl))) (hk _ ?_); clear hC hk C k; simp only [zap])
  | (refine CallV.fun_ (hit) (by first | rfl | fail) (by first | simp [hz, hne, hne1, hnej, h2j, h1j, hj2, hj1, hx0, hx1, hx2, hjx, hA, hB, zam, frzS, zaH] <;> rfl | fail) ?_ <;> (try simp [hz, hne, hne1, hnej, h2j, h1j, hj2, hj1, hx0, hx1, hx2, hjx, hA, hB, zam, frzS, zaH]))
  | (refine zav (by first | rfl | fail) ?_; simp [hz, hne, hne1, hnej, h2j, h1j, hj2, hj1, hx0, hx1, hx2, hjx, hA, hB, zam, frzS, zaH, frzN, frz1, zaz, zay, St.frz, St.frzS, frzS, fv, zaH, za2, za4, zaG, zau, zam, del, frz, za5])
  | (refine CallP.okL (hln _ (by first | omega | simp <;> omega | fail)) (by first | (simp [hz, hne, hne1, hnej, h2j, h1j, hj2, hj1, hx0, hx1, hx2, hjx, hA, hB, zam, frzS, zaH, zaa, getK, zab, zac, zal, zaL, del]; done) | fail) (by rfl) (by rfl) ?_; (try simp [hz, hne, hne1, hnej, h2j, h1j, hj2, hj1, hx0, hx1, hx2, hjx, hA, hB, zam, frzS, zaH, zcV, del]))
  | fail)
  generalize l ++ zca (w :: Lib.itoa n :: ws) = T at *
  (refine EndW.here ?_; (first | (refine EndOK.fin (.inr rfl) ?_) | (refine EndOK.fin (.inl rfl) ?_)); simp [zaA, zae, Tryz.results55, hne, hne1, hnej, h2j, h1j, hj2, hj1, hx0, hx1, hx2, hj, h2]; refine FinOK.cut [(2, zcf), (1, zdn (nx + 2) T), (nx + 2, zdm T)] (nx + 3) (by simp [zaa, getK, zab, zac, Ob.under, D.under, zad, zaf, hne, hne1, hnej, h2j, h1j, hj2, hj1, hx0, hx1, hx2, hj, h2] <;> omega) (by simp [D.under]) (by simp [hn]) ?_; try simp)
  exact ⟨rfl, nx + 2, by omega, by omega, by omega, rfl⟩
noncomputable def clauseT (w : W8) (e : Exp) : W8 := if eqB e nothingE = true /\ w ≠ [100, 117, 101] then [] else zca [w, txt e 0]
theorem zkf (w v : W8) : (zca [w, v]).length = w.length + v.length + 4 := by
 rw [zca, zbr, zbh]; simp; omega
theorem zdl (l w : W8) (e : Exp) (j nx : Nat) (hj3 : 3 <= j) (hj : j < nx) (he : zaP 12 e = true) (hlen : l.length + w.length <= 10000000000000) :
  RetX Tryz.prog 57 [.u (.str w), .u (.agg e.row), .ptr 2 0] [(2, zcf), (1, zdn j l), (j, zdm l)] nx
   (fun r o N => ∃ d, r = .val d /\ zse j nx (l ++ clauseT w e) d o N) := by
 have hsm : zdA e nothingE := zcl e nothingE;unfold zdA at hsm;have hno := zhm;have hsh := zgZ 12 (Nat.le_refl _) e he 0;have htl := zcE he (Nat.le_refl _) 0;have hln2 := zkf w (txt e 0);have h2 : 2 < nx := by omega
 have h2j : ¬ (2 : Nat) = j := by omega
 have h1j : ¬ (1 : Nat) = j := by omega
 have hj2 : ¬ j = 2 := by omega
 have hj1 : ¬ j = 1 := by omega
 have hx0 : ¬ nx = 0 := by omega
 have hx1 : ¬ nx = 1 := by omega
 have hx2 : ¬ nx = 2 := by omega
 have hjx : ¬ j = nx + 1 := by omega
 have hjx2 : ¬ j = nx + 2 := by omega
 have hne := zaw h2;have hne1 := zaw (show 1 < nx by omega);have hnej := zaw hj;rw [clauseT];rw [show nothingE.row = [.int .i64 0, .int .i64 0, .int .i64 3, .str [], .sl []] by simp [nothingE, Exp.row]] at hsm hno;rw [Exp.row_eq e] at *;generalize eqB e nothingE = E at *;by_cases hc1 : E = true /\ w ≠ [100, 117, 101]
 ·rw [if_pos hc1, List.append_nil];obtain ⟨rfl, hw⟩ := hc1
  (refine RetX.of_bodyW Tryz.func57 rfl (by simp) fun Γ hn hpan => ?_); simp only [entry, ziC, ziN, maC, maN, oA, Tryz.ntmps57]
  skip
  repeat' (first
  | ((first | refine zag ?_ | refine zaS rfl ?_ | refine zdI rfl ?_ | refine zaj ?_ | refine zah ?_ | refine zai ?_ | fail); simp [hw, hne, hne1, hnej, h2j, h1j, hj2, hj1, hx0, hx1, hx2, hjx])
  | (refine za0 (hC _ (zbP [2] (nx) (by simp <;> omega) (by simp <;> omega) (by apply Exists.intro; apply And.intro; (focus (repeat' (first | exact KF.nil | exact KL.nil | apply KF.cons | apply KL.cons 0 rfl | apply KL.cons 1 rfl | apply KL.cons 2 rfl | apply KL.cons 3 rfl | apply KL.cons 4 rfl | apply KL.cons 5 rfl | apply KL.cons 6 rfl | apply KL.cons 7 rfl | apply KL.cons 8 rfl | apply KL.cons 9 rfl))); kernel_rfl))) (hk _ ?_); clear hC hk C k; simp only [zap])
  | (refine za3 rfl (by kernel_rfl) (by first | (simp [hn]; done) | (simp [hn]; omega) | fail) fun C k hC hk => ?_; simp [hw, hne, hne1, hnej, h2j, h1j, hj2, hj1, hx0, hx1, hx2, hjx])
  | (refine zcC rfl (by simp [hw, hne, hne1, hnej, h2j, h1j, hj2, hj1, hx0, hx1, hx2, hjx]) (fun hc => ?_) (fun hc => ?_) <;> (try simp [hw, hne, hne1, hnej, h2j, h1j, hj2, hj1, hx0, hx1, hx2, hjx] at hc) <;> (try (exfalso; omega)) <;> (try simp [hw, hne, hne1, hnej, h2j, h1j, hj2, hj1, hx0, hx1, hx2, hjx]))
  | (refine zao ?_; simp only [zap])
  | (refine CallV.fun_ (hno) (by first | rfl | fail) (by first | simp [hw, hne, hne1, hnej, h2j, h1j, hj2, hj1, hx0, hx1, hx2, hjx] <;> rfl | fail) ?_ <;> (try simp [hw, hne, hne1, hnej, h2j, h1j, hj2, hj1, hx0, hx1, hx2, hjx]))
  | (refine CallV.fun_ (hsm) (by first | rfl | fail) (by first | simp [hw, hne, hne1, hnej, h2j, h1j, hj2, hj1, hx0, hx1, hx2, hjx] <;> rfl | fail) ?_ <;> (try simp [hw, hne, hne1, hnej, h2j, h1j, hj2, hj1, hx0, hx1, hx2, hjx]))
  | fail)
  (refine EndW.here ?_; (first | (refine EndOK.fin (.inr rfl) ?_) | (refine EndOK.fin (.inl rfl) ?_)); simp [zaA, zae, Tryz.results57, hne, hne1, hnej, h2j, h1j, hj2, hj1, hx0, hx1, hx2, hj, h2]; refine FinOK.cut [(2, zcf), (1, zdn j l), (j, zdm l)] (nx) (by simp [zaa, getK, zab, zac, Ob.under, D.under, zad, zaf, hne, hne1, hnej, h2j, h1j, hj2, hj1, hx0, hx1, hx2, hj, h2] <;> omega) (by simp [D.under]) (by simp [hn]) ?_; try simp)
  exact ⟨rfl, j, hj3, hj, Nat.le_refl _, rfl⟩
 ·rw [if_neg hc1];have hln := fun nx' (h : nx <= nx') => zhs l [w, txt e 0] j nx' hj3 (by omega) (by omega) (by simp);simp only [List.map_cons, List.map_nil] at hln;generalize txt e 0 = T0 at *;generalize l ++ zca [w, T0] = T at *;cases E with
  | false =>
   (refine RetX.of_bodyW Tryz.func57 rfl (by simp) fun Γ hn hpan => ?_); simp only [entry, ziC, ziN, maC, maN, oA, Tryz.ntmps57]
   skip
   repeat' (first
  | (refine zdD ?_; simp [hne, hne1, hnej, h2j, h1j, hj2, hj1, hx0, hx1, hx2, hjx, hjx2, zam, frzS, zaH])
  | (refine zeI rfl rfl (by decide +kernel) (by first | (simp [hn]; done) | (simp [hn]; omega) | fail) fun C k hC hk => ?_; simp [hne, hne1, hnej, h2j, h1j, hj2, hj1, hx0, hx1, hx2, hjx, hjx2, zam, frzS, zaH])
  | ((first | refine zag ?_ | refine zaS rfl ?_ | refine zbJ rfl ?_ | refine zaj ?_ | refine zah ?_ | refine zai ?_ | fail); simp [hne, hne1, hnej, h2j, h1j, hj2, hj1, hx0, hx1, hx2, hjx, hjx2, zam, frzS, zaH])
  | (refine za0 (hC _ (zbP [2] (nx) (by simp <;> omega) (by simp <;> omega) (by apply Exists.intro; apply And.intro; (focus (repeat' (first | exact KF.nil | exact KL.nil | apply KF.cons | apply KL.cons 0 rfl | apply KL.cons 1 rfl | apply KL.cons 2 rfl | apply KL.cons 3 rfl | apply KL.cons 4 rfl | apply KL.cons 5 rfl | apply KL.cons 6 rfl | apply KL.cons 7 rfl | apply KL.cons 8 rfl | apply KL.cons 9 rfl))); kernel_rfl))) (hk _ ?_); clear hC hk C k; simp only [zap])
  | (refine za3 rfl (by kernel_rfl) (by first | (simp [hn]; done) | (simp [hn]; omega) | fail) fun C k hC hk => ?_; simp [hne, hne1, hnej, h2j, h1j, hj2, hj1, hx0, hx1, hx2, hjx, hjx2, zam, frzS, zaH])
  | (refine zcC rfl (by simp [hne, hne1, hnej, h2j, h1j, hj2, hj1, hx0, hx1, hx2, hjx, hjx2, zam, frzS, zaH]) (fun hc => ?_) (fun hc => ?_) <;> (try simp [hne, hne1, hnej, h2j, h1j, hj2, hj1, hx0, hx1, hx2, hjx, hjx2, zam, frzS, zaH] at hc) <;> (try (exfalso; omega)) <;> (try simp [hne, hne1, hnej, h2j, h1j, hj2, hj1, hx0, hx1, hx2, hjx, hjx2, zam, frzS, zaH]))
  | (refine CallV.fun_ (hno) (by first | rfl | fail) (by first | simp [hne, hne1, hnej, h2j, h1j, hj2, hj1, hx0, hx1, hx2, hjx, hjx2, zam, frzS, zaH] <;> rfl | fail) ?_ <;> (try simp [hne, hne1, hnej, h2j, h1j, hj2, hj1, hx0, hx1, hx2, hjx, hjx2, zam, frzS, zaH]))
  | (refine CallV.fun_ (hsm) (by first | rfl | fail) (by first | simp [hne, hne1, hnej, h2j, h1j, hj2, hj1, hx0, hx1, hx2, hjx, hjx2, zam, frzS, zaH] <;> rfl | fail) ?_ <;> (try simp [hne, hne1, hnej, h2j, h1j, hj2, hj1, hx0, hx1, hx2, hjx, hjx2, zam, frzS, zaH]))
  | (refine CallV.fun_ (hsh) (by first | rfl | fail) (by first | simp [hne, hne1, hnej, h2j, h1j, hj2, hj1, hx0, hx1, hx2, hjx, hjx2, zam, frzS, zaH] <;> rfl | fail) ?_ <;> (try simp [hne, hne1, hnej, h2j, h1j, hj2, hj1, hx0, hx1, hx2, hjx, hjx2, zam, frzS, zaH]))
  | (refine zav (by first | rfl | fail) ?_; simp [hne, hne1, hnej, h2j, h1j, hj2, hj1, hx0, hx1, hx2, hjx, hjx2, zam, frzS, zaH, frzN, frz1, zaz, zay, St.frz, St.frzS, frzS, fv, zaH, za2, za4, zaG, zau, zam, del, frz, za5])
  | (refine CallP.okL (hln _ (by first | omega | simp <;> omega | fail)) (by first | (simp [hne, hne1, hnej, h2j, h1j, hj2, hj1, hx0, hx1, hx2, hjx, hjx2, zam, frzS, zaH, zaa, getK, zab, zac, zal, zaL, del]; done) | fail) (by rfl) (by rfl) ?_; (try simp [hne, hne1, hnej, h2j, h1j, hj2, hj1, hx0, hx1, hx2, hjx, hjx2, zam, frzS, zaH, zcV, del]))
  | fail)
   (refine EndW.here ?_; (first | (refine EndOK.fin (.inr rfl) ?_) | (refine EndOK.fin (.inl rfl) ?_)); simp [zaA, zae, Tryz.results57, hne, hne1, hnej, h2j, h1j, hj2, hj1, hx0, hx1, hx2, hj, h2]; refine FinOK.cut [(2, zcf), (1, zdn (nx + 2) T), (nx + 2, zdm T)] (nx + 3) (by simp [zaa, getK, zab, zac, Ob.under, D.under, zad, zaf, hne, hne1, hnej, h2j, h1j, hj2, hj1, hx0, hx1, hx2, hj, h2] <;> omega) (by simp [D.under]) (by simp [hn]) ?_; try simp)
   exact ⟨rfl, nx + 2, by omega, by omega, by omega, rfl⟩
  | true =>
   obtain rfl : w = [100, 117, 101] := by
    by_cases hw : w = [100, 117, 101]
    ·exact hw
    ·exact absurd ⟨rfl, hw⟩ hc1
   (refine RetX.of_bodyW Tryz.func57 rfl (by simp) fun Γ hn hpan => ?_); simp only [entry, ziC, ziN, maC, maN, oA, Tryz.ntmps57]
   skip
   repeat' (first
  | (refine zdD ?_; simp [hne, hne1, hnej, h2j, h1j, hj2, hj1, hx0, hx1, hx2, hjx, hjx2, zam, frzS, zaH])
  | (refine zeI rfl rfl (by decide +kernel) (by first | (simp [hn]; done) | (simp [hn]; omega) | fail) fun C k hC hk => ?_; simp [hne, hne1, hnej, h2j, h1j, hj2, hj1, hx0, hx1, hx2, hjx, hjx2, zam, frzS, zaH])
  | ((first | refine zag ?_ | refine zaS rfl ?_ | refine zbJ rfl ?_ | refine zdI rfl ?_ | refine zaj ?_ | refine zah ?_ | refine zai ?_ | fail); simp [hne, hne1, hnej, h2j, h1j, hj2, hj1, hx0, hx1, hx2, hjx, hjx2, zam, frzS, zaH])
  | (refine za0 (hC _ (zbP [2] (nx) (by simp <;> omega) (by simp <;> omega) (by apply Exists.intro; apply And.intro; (focus (repeat' (first | exact KF.nil | exact KL.nil | apply KF.cons | apply KL.cons 0 rfl | apply KL.cons 1 rfl | apply KL.cons 2 rfl | apply KL.cons 3 rfl | apply KL.cons 4 rfl | apply KL.cons 5 rfl | apply KL.cons 6 rfl | apply KL.cons 7 rfl | apply KL.cons 8 rfl | apply KL.cons 9 rfl))); kernel_rfl))) (hk _ ?_); clear hC hk C k; simp only [zap])
  | (refine za3 rfl (by kernel_rfl) (by first | (simp [hn]; done) | (simp [hn]; omega) | fail) fun C k hC hk => ?_; simp [hne, hne1, hnej, h2j, h1j, hj2, hj1, hx0, hx1, hx2, hjx, hjx2, zam, frzS, zaH])
  | (refine zcC rfl (by simp [hne, hne1, hnej, h2j, h1j, hj2, hj1, hx0, hx1, hx2, hjx, hjx2, zam, frzS, zaH]) (fun hc => ?_) (fun hc => ?_) <;> (try simp [hne, hne1, hnej, h2j, h1j, hj2, hj1, hx0, hx1, hx2, hjx, hjx2, zam, frzS, zaH] at hc) <;> (try (exfalso; omega)) <;> (try simp [hne, hne1, hnej, h2j, h1j, hj2, hj1, hx0, hx1, hx2, hjx, hjx2, zam, frzS, zaH]))
  | (refine CallV.fun_ (hno) (by first | rfl | fail) (by first | simp [hne, hne1, hnej, h2j, h1j, hj2, hj1, hx0, hx1, hx2, hjx, hjx2, zam, frzS, zaH] <;> rfl | fail) ?_ <;> (try simp [hne, hne1, hnej, h2j, h1j, hj2, hj1, hx0, hx1, hx2, hjx, hjx2, zam, frzS, zaH]))
  | (refine CallV.fun_ (hsm) (by first | rfl | fail) (by first | simp [hne, hne1, hnej, h2j, h1j, hj2, hj1, hx0, hx1, hx2, hjx, hjx2, zam, frzS, zaH] <;> rfl | fail) ?_ <;> (try simp [hne, hne1, hnej, h2j, h1j, hj2, hj1, hx0, hx1, hx2, hjx, hjx2, zam, frzS, zaH]))
  | (refine CallV.fun_ (hsh) (by first | rfl | fail) (by first | simp [hne, hne1, hnej, h2j, h1j, hj2, hj1, hx0, hx1, hx2, hjx, hjx2, zam, frzS, zaH] <;> rfl | fail) ?_ <;> (try simp [hne, hne1, hnej, h2j, h1j, hj2, hj1, hx0, hx1, hx2, hjx, hjx2, zam, frzS, zaH]))
  | (refine zav (by first | rfl | fail) ?_; simp [hne, hne1, hnej, h2j, h1j, hj2, hj1, hx0, hx1, hx2, hjx, hjx2, zam, frzS, zaH, frzN, frz1, zaz, zay, St.frz, St.frzS, frzS, fv, zaH, za2, za4, zaG, zau, zam, del, frz, za5])
  | (refine CallP.okL (hln _ (by first | omega | simp <;> omega | fail)) (by first | (simp [hne, hne1, hnej, h2j, h1j, hj2, hj1, hx0, hx1, hx2, hjx, hjx2, zam, frzS, zaH, zaa, getK, zab, zac, zal, zaL, del]; done) | fail) (by rfl) (by rfl) ?_; (try simp [hne, hne1, hnej, h2j, h1j, hj2, hj1, hx0, hx1, hx2, hjx, hjx2, zam, frzS, zaH, zcV, del]))
  | fail)
   (refine EndW.here ?_; (first | (refine EndOK.fin (.inr rfl) ?_) | (refine EndOK.fin (.inl rfl) ?_)); simp [zaA, zae, Tryz.results57, hne, hne1, hnej, h2j, h1j, hj2, hj1, hx0, hx1, hx2, hj, h2]; refine FinOK.cut [(2, zcf), (1, zdn (nx + 2) T), (nx + 2, zdm T)] (nx + 3) (by simp [zaa, getK, zab, zac, Ob.under, D.under, zad, zaf, hne, hne1, hnej, h2j, h1j, hj2, hj1, hx0, hx1, hx2, hj, h2] <;> omega) (by simp [D.under]) (by simp [hn]) ?_; try simp)
   exact ⟨rfl, nx + 2, by omega, by omega, by omega, rfl⟩
abbrev zfF (a b : Exp) : Prop := Fun Tryz.prog 15 [.u (.agg a.row), .u (.agg b.row)] (· = .u (.bool (eqB a b)))
theorem znZ : ∀ (n : Nat) (a b : Exp), SizeOf.sizeOf a <= n -> zfF a b := by
 intro n
 induction n with
 | zero =>
  intro a b h;cases a with
  | mk op n u s args => simp only [Exp.mk.sizeOf_spec] at h; omega
 | succ n ih =>
  intro a b hs;have hch : ∀ x ∈ a.args, ∀ y, zfF x y := fun x hx y => ih x y (by have := Exp.zeK hx; omega);unfold zfF;have key : ∀ B : Bool, (B = true ↔ a = b) -> eqB a b = B := fun B h => by
   cases B with
   | true => exact zcD.2 (h.1 rfl)
   | false => exact zek fun e => by have := h.2 e; cases this
  have hmk : a = b ↔ a.op = b.op /\ a.n = b.n /\ a.unit = b.unit /\ a.s = b.s /\ a.args = b.args := by
   cases a; cases b;simp only [Exp.op, Exp.n, Exp.unit, Exp.s, Exp.args, Exp.mk.injEq]
  rw [Exp.row_eq, Exp.row_eq b];by_cases c1 : a.op = b.op
  ·by_cases c2 : a.n = b.n
   ·by_cases c3 : a.unit = b.unit
    ·by_cases c4 : a.s = b.s
     ·by_cases c5 : a.args.length = b.args.length
      ·have c5' : (a.args.length : Int) = b.args.length := by omega
       rw [key (eqB a.args b.args) (by rw [zcD, hmk]; exact ⟨fun h => ⟨c1, c2, c3, c4, h⟩, fun h => h.2.2.2.2⟩)];clear key hmk
       (refine Fun.of_body Tryz.func15 rfl (by simp) fun Γ hn => ?_); simp only [entry, ziC, ziN, maC, maN, oA, Tryz.ntmps15]
       refine zpl (x := 0) (j := 4) rfl rfl fun hll => ?_;simp only [List.length_map] at hll
       repeat' (first
  | ((first | refine zag ?_ | refine zaj ?_ | refine zah ?_ | refine zai ?_ | refine zat ?_ | fail); simp [c1, c2, c3, c4, c5, c5'])
  | (refine zao ?_; simp only [zap])
  | fail)
       refine zcT (α := { i : Nat // i <= a.args.length /\ a.args.take i = b.args.take i }) [2, 3, 4] (fun x => [(5, .u (.int .i64 x.1))]) (fun x => [(1, .box [.u (.int .i64 b.op), .u (.int .i64 b.n), .u (.int .i64 b.unit), .u (.str b.s), .u (.sl (b.args.map Exp.row))]), (0, .box [.u (.int .i64 a.op), .u (.int .i64 a.n), .u (.int .i64 a.unit), .u (.str a.s), .u (.sl (a.args.map Exp.row))])]) 2 (fun x => a.args.length - x.1) ⟨0, by omega, by simp⟩ ?_ ?_
       ·exact (Wk.cut rfl (by simp [hn, St.lp]) (by simp [wkO, St.lp, zaa, getK, Ob.under, D.under, zad, zaf, c1, c2, c3, c4, c5]) (by simp [wkU, St.lp, zan, zaa, getK, D.under, c1, c2, c3, c4, c5]) (by simp [wkE, St.lp, zan, zaa, getK, c1, c2, c3, c4, c5] <;> (try (intros; simp_all; done)) <;> (try (intros; omega)) <;> (try grind)))
       rintro ⟨i, hi, hb⟩;simp [St.lp, St.only, zan, zaa, getK];rcases hx : a.args[i]? with _ | x
       ·have hge : a.args.length <= i := by simpa using hx
        obtain rfl : i = a.args.length := by omega
        rw [List.take_of_length_le (Nat.le_refl _), List.take_of_length_le (by omega)] at hb;rw [zcD.2 hb]
        repeat' (first
  | ((first | refine zag ?_ | refine zaj ?_ | refine zah ?_ | refine zai ?_ | fail); simp [hx, c5])
  | (refine zaq ?_; simp only [zap])
  | (refine za9 ?_; simp [zap])
  | fail)
        (refine EndOK.val (.inr rfl) ?_; simp [zaA, zae, zar, Tryz.results15])
       ·have hlt : i < a.args.length := (lGE.1 hx).1;have hlt2 : i < b.args.length := by omega
        obtain ⟨y, hy⟩ : ∃ y, b.args[i]? = some y := ⟨_, List.getElem?_eq_getElem hlt2⟩;have hi2 : (i : Int) < b.args.length := by omega
        have hi1 : (i : Int) < a.args.length := by omega
        have h1 : zfF x y := hch x (List.mem_of_getElem? hx) y;unfold zfF at h1;by_cases hab : x = y
        ·rw [zcD.2 hab] at h1;rw [Exp.row_eq, Exp.row_eq] at h1;have hsn : a.args.take (i + 1) = b.args.take (i + 1) := by
          rw [List.take_succ_eq_append_getElem hlt, List.take_succ_eq_append_getElem hlt2, hb, (lGE.1 hx).2, (lGE.1 hy).2, hab]
         repeat' (first
  | ((first | refine zag ?_ | refine zaS rfl ?_ | refine zaj ?_ | fail); simp [hx, hy, hi1, hi2, c5, Exp.row_eq])
  | (refine ⟨by omega, ?_⟩)
  | ((first | refine zah ?_ | refine zai ?_ | fail); simp [hx, hy, hi1, hi2, c5, Exp.row_eq])
  | (refine za0 (hC _ (by kernel_rfl)) (hk _ ?_); clear hC hk C k; simp only [zap])
  | (refine za3 rfl (by kernel_rfl) (by first | (simp [hn]; done) | (simp [hn]; omega) | fail) fun C k hC hk => ?_; simp [hx, hy, hi1, hi2, c5, Exp.row_eq])
  | (refine zas ?_; simp [hx, hy, hi1, hi2, c5, Exp.row_eq])
  | (refine zao ?_; simp only [zap])
  | (refine CallV.fun_ (h1) (by first | rfl | fail) (by first | simp [hx, hy, hi1, hi2, c5, Exp.row_eq] <;> rfl | fail) ?_ <;> (try simp [hx, hy, hi1, hi2, c5, Exp.row_eq]))
  | fail)
         refine LoopW.next ⟨i + 1, by omega, hsn⟩ (by simp; omega) ?_
         exact (Wk.cut rfl (by simp [hn, St.lp]) (by simp [wkO, St.lp, zaa, getK, Ob.under, D.under, zad, zaf, c5]) (by simp [wkU, St.lp, zan, zaa, getK, D.under, c5]) (by simp [wkE, St.lp, zan, zaa, getK, c5] <;> (try (intros; simp_all; done)) <;> (try (intros; omega)) <;> (try grind)))
        ·rw [zek hab] at h1;rw [Exp.row_eq, Exp.row_eq] at h1;have hne : a.args ≠ b.args := fun e => by rw [e] at hx; rw [hx] at hy; cases hy; exact hab rfl
         rw [zek hne]
         repeat' (first
  | ((first | refine zag ?_ | refine zaS rfl ?_ | refine zaj ?_ | refine zah ?_ | refine zai ?_ | fail); simp [hx, hy, hi1, hi2, c5, Exp.row_eq])
  | (refine za0 (hC _ (by kernel_rfl)) (hk _ ?_); clear hC hk C k; simp only [zap])
  | (refine za3 rfl (by kernel_rfl) (by first | (simp [hn]; done) | (simp [hn]; omega) | fail) fun C k hC hk => ?_; simp [hx, hy, hi1, hi2, c5, Exp.row_eq])
  | ((first | refine zaq ?_ | refine zao ?_ | fail); simp only [zap])
  | (refine CallV.fun_ (h1) (by first | rfl | fail) (by first | simp [hx, hy, hi1, hi2, c5, Exp.row_eq] <;> rfl | fail) ?_ <;> (try simp [hx, hy, hi1, hi2, c5, Exp.row_eq]))
  | fail)
         (refine EndOK.val (.inr rfl) ?_; simp [zaA, zae, zar, Tryz.results15])
      ·have c5' : ¬ (a.args.length : Int) = b.args.length := by omega
       rw [key false (by rw [hmk]; simp; intro _ _ _ _ h; exact c5 (by rw [h]))]
       (refine Fun.of_body Tryz.func15 rfl (by simp) fun Γ hn => ?_); simp only [entry, ziC, ziN, maC, maN, oA, Tryz.ntmps15]
       repeat' (first
  | ((first | refine zag ?_ | refine zaj ?_ | refine zah ?_ | refine zai ?_ | fail); simp [c1, c2, c3, c4, c5, c5'])
  | (refine zaq ?_; simp only [zap])
  | fail)
       (refine EndOK.val (.inr rfl) ?_; simp [zaA, zae, zar, Tryz.results15])
     ·rw [key false (by rw [hmk]; simp [c4])]
      (refine Fun.of_body Tryz.func15 rfl (by simp) fun Γ hn => ?_); simp only [entry, ziC, ziN, maC, maN, oA, Tryz.ntmps15]
      repeat' (first
  | ((first | refine zag ?_ | refine zaj ?_ | refine zah ?_ | refine zai ?_ | fail); simp [c1, c2, c3, c4])
  | (refine zaq ?_; simp only [zap])
  | fail)
      (refine EndOK.val (.inr rfl) ?_; simp [zaA, zae, zar, Tryz.results15])
    ·rw [key false (by rw [hmk]; simp [c3])]
     (refine Fun.of_body Tryz.func15 rfl (by simp) fun Γ hn => ?_); simp only [entry, ziC, ziN, maC, maN, oA, Tryz.ntmps15]
     repeat' (first
  | ((first | refine zag ?_ | refine zaj ?_ | refine zah ?_ | refine zai ?_ | fail); simp [c1, c2, c3])
  | (refine zaq ?_; simp only [zap])
  | fail)
     (refine EndOK.val (.inr rfl) ?_; simp [zaA, zae, zar, Tryz.results15])
   ·rw [key false (by rw [hmk]; simp [c2])]
    (refine Fun.of_body Tryz.func15 rfl (by simp) fun Γ hn => ?_); simp only [entry, ziC, ziN, maC, maN, oA, Tryz.ntmps15]
    repeat' (first
  | ((first | refine zag ?_ | refine zaj ?_ | refine zah ?_ | refine zai ?_ | fail); simp [c1, c2])
  | (refine zaq ?_; simp only [zap])
  | fail)
    (refine EndOK.val (.inr rfl) ?_; simp [zaA, zae, zar, Tryz.results15])
  ·rw [key false (by rw [hmk]; simp [c1])]
   (refine Fun.of_body Tryz.func15 rfl (by simp) fun Γ hn => ?_); simp only [entry, ziC, ziN, maC, maN, oA, Tryz.ntmps15]
   repeat' (first
  | ((first | refine zag ?_ | refine zaj ?_ | refine zah ?_ | refine zai ?_ | fail); simp [c1])
  | (refine zaq ?_; simp only [zap])
  | fail)
   (refine EndOK.val (.inr rfl) ?_; simp [zaA, zae, zar, Tryz.results15])
theorem zcm (a b : Exp) : zfF a b := znZ (SizeOf.sizeOf a) a b (Nat.le_refl _)
theorem zhQ (A : List Let) : Fun Tryz.prog 46 [.u (zfO A), .u (zfO A)] (· = .u (.bool true)) := by
 simp only [zfO]
 (refine Fun.of_body Tryz.func46 rfl (by simp) fun Γ hn => ?_); simp only [entry, ziC, ziN, maC, maN, oA, Tryz.ntmps46]
 refine zji (x := 0) rfl fun hll => ?_;simp at hll
 repeat' (first
  | ((first | refine zag ?_ | refine zaj ?_ | refine zah ?_ | refine zai ?_ | refine zat ?_ | fail); simp)
  | (refine zao ?_; simp only [zap])
  | fail)
 refine zb8 (α := { i : Nat // i <= A.length }) [0, 1, 4] (fun x => [(5, .u (.int .i64 x.1))]) (fun x => A.length - x.1) ⟨0, by omega⟩ ?_ ?_
 ·exact (Wk.env rfl rfl rfl (by simp [wkE, St.lp, zan, zaa, getK] <;> (try (intros; simp_all; done)) <;> (try (intros; omega)) <;> (try grind)))
 rintro ⟨i, hi⟩;simp [St.lp, St.only, zan, zaa, getK];rcases hx : A[i]? with _ | x
 ·have hge : A.length <= i := by simpa using hx
  obtain rfl : i = A.length := by omega
  repeat' (first
  | ((first | refine zag ?_ | refine zaj ?_ | refine zah ?_ | refine zai ?_ | fail); simp [hx])
  | (refine zaq ?_; simp only [zap])
  | (refine za9 ?_; simp [zap])
  | fail)
  (refine EndOK.val (.inr rfl) ?_; simp [zaA, zae, zar, Tryz.results46])
 ·have hlt : i < A.length := (lGE.1 hx).1;have hi1 : (i : Int) < A.length := by omega
  have h1 : zfF x.body x.body := zcm _ _;unfold zfF at h1;rw [zfc] at h1;rw [Exp.row_eq] at h1
  repeat' (first
  | ((first | refine zag ?_ | refine zaS rfl ?_ | refine zdI rfl ?_ | refine zaj ?_ | fail); simp [hx, hi1])
  | (refine ⟨by omega, ?_⟩)
  | ((first | refine zah ?_ | refine zai ?_ | fail); simp [hx, hi1])
  | (refine za0 (hC _ (by kernel_rfl)) (hk _ ?_); clear hC hk C k; simp only [zap])
  | (refine za3 rfl (by kernel_rfl) (by first | (simp [hn]; done) | (simp [hn]; omega) | fail) fun C k hC hk => ?_; simp [hx, hi1])
  | (refine zcC rfl (by simp [hx, hi1]) (fun hc => ?_) (fun hc => ?_) <;> (try simp [hx, hi1] at hc) <;> (try (exfalso; omega)) <;> (try simp [hx, hi1]))
  | (refine zas ?_; simp [hx, hi1])
  | (refine zao ?_; simp only [zap])
  | (refine CallV.fun_ (h1) (by first | rfl | fail) (by first | simp [hx, hi1] <;> rfl | fail) ?_ <;> (try simp [hx, hi1]))
  | fail)
  refine LoopW.next ⟨i + 1, by omega⟩ (by simp; omega) ?_
  exact (Wk.env rfl rfl rfl (by simp [wkE, St.lp, zan, zaa, getK] <;> (try (intros; simp_all; done)) <;> (try (intros; omega)) <;> (try grind)))
theorem zmJ (b : By) : Fun Tryz.prog 14 [.u (.agg (zbb b)), .u (.agg (zbb b))] (· = .u (.bool true)) := by
 have e0 := zhQ b.lets;have e1 : zfF b.due b.due := zcm _ _;have e2 : zfF b.fine b.fine := zcm _ _;have e3 : zfF b.pay b.pay := zcm _ _;have e4 : zfF b.cover b.cover := zcm _ _;have e5 : zfF b.hold b.hold := zcm _ _;unfold zfF at e1 e2 e3 e4 e5;rw [Exp.row_eq] at e1 e2 e3 e4 e5;rw [zfc] at e1 e2 e3 e4 e5;simp only [zfO] at e0;unfold zbb
 (refine Fun.of_body Tryz.func14 rfl (by simp) fun Γ hn => ?_); simp only [entry, ziC, ziN, maC, maN, oA, Tryz.ntmps14]
 repeat' (first
  | ((first | refine zag ?_ | refine zaj ?_ | refine zah ?_ | fail); simp)
  | (refine zaq ?_; simp only [zap])
  | (refine CallP.fE (e0) (by first | rfl | fail) (by first | (simp; done) | (simp; rfl) | fail) ?_; (try simp))
  | (refine CallP.fE (e1) (by first | rfl | fail) (by first | (simp; done) | (simp; rfl) | fail) ?_; (try simp))
  | (refine CallP.fE (e2) (by first | rfl | fail) (by first | (simp; done) | (simp; rfl) | fail) ?_; (try simp))
  | (refine CallP.fE (e3) (by first | rfl | fail) (by first | (simp; done) | (simp; rfl) | fail) ?_; (try simp))
  | (refine CallP.fE (e4) (by first | rfl | fail) (by first | (simp; done) | (simp; rfl) | fail) ?_; (try simp))
  | (refine CallP.fE (e5) (by first | rfl | fail) (by first | (simp; done) | (simp; rfl) | fail) ?_; (try simp))
  | fail)
 (refine EndOK.val (.inr rfl) ?_; simp [zaA, zae, zar, Tryz.results14])
end Go.Proofs.YthnemhfamhnfjaaGreatDoor
namespace Go.Proofs.YthnemhfamhnfjaaGreatDoor
open Go Go.VL
def zeL : By := ⟨0, 0, 0, 0, 0, 0, false, 0, 0, 0, 0, [], zcK, zcK, zcK, zcK, zcK⟩
def zdX (s : W8) : By × Int × Int := match zhM s with
 | .error (p, e) => (zeL, p, e)
 | .ok l => match zql l with
  | .stop pos e => (zeL, pos, e)
  | .ok b _ => (b, 0, 0)
def zpu (r : By × Int × Int) : D := .tup [.u (.agg (zbb r.1)), .u (.int .i64 r.2.1), .u (.int .i64 r.2.2)]
abbrev zqm : Ob := .box [.u (.int .i64 0), .u (.int .i64 0), .u (.int .i64 0), .u (.int .i64 0), .u (.int .i64 0), .u (.int .i64 0), .u (.bool false), .u (.int .i64 0), .u (.int .i64 0), .u (.int .i64 0), .u (.int .i64 0), .u .nil, .u (.int .i64 0), .u (.int .i64 0), .u (.int .i64 0), .u (.str []), .u .nil, .u (.int .i64 0), .u (.int .i64 0), .u (.int .i64 0), .u (.str []), .u .nil, .u (.int .i64 0), .u (.int .i64 0), .u (.int .i64 0), .u (.str []), .u .nil, .u (.int .i64 0), .u (.int .i64 0), .u (.int .i64 0), .u (.str []), .u .nil, .u (.int .i64 0), .u (.int .i64 0), .u (.int .i64 0), .u (.str []), .u .nil]
end Go.Proofs.YthnemhfamhnfjaaGreatDoor
namespace Go.Proofs.YthnemhfamhnfjaaGreatDoor
open Go Go.VL
def Fine {α : Type} (l : List Tok) : PR α -> Prop
 | .ok _ _ => True
 | .stop pos e => e ≠ 0 /\ ∃ q, pos = zbL l q
theorem Fine.ok {α : Type} {l : List Tok} (a : α) (q : Nat) : Fine l (.ok a q) := trivial
theorem Fine.stop {α : Type} {l : List Tok} (q : Nat) (e : Int) (h : e ≠ 0) : Fine (α := α) l (.stop (zbL l q) e) := ⟨h, q, rfl⟩
theorem Fine.bind {α β : Type} {l : List Tok} {r : PR α} {f : α -> Nat -> PR β} (h : Fine l r) (g : ∀ a q, r = .ok a q -> Fine l (f a q)) : Fine l (r.bind f) := by
 cases r with
 | ok a q => exact g a q rfl
 | stop pos e => exact h
theorem zlS {l : List Tok} {p : Nat} {t : Tok} (h : l[p]? = some t) : t.pos = zbL l p := by unfold zbL; rw [h]
theorem Fine.want {l : List Tok} : ∀ (ws : List W8) (p : Nat), Fine l (zbd l p ws)
 | [], p => by rw [zbd]; exact .ok _ _
 | w :: ws, p => by
  rw [zbd];split
  ·exact Fine.want ws (p + 1)
  ·exact .stop _ _ (by decide)
theorem Fine.unit {l : List Tok} (p : Nat) : Fine l (zhP l p) := by
 unfold zhP;split
 ·exact .ok _ _
 ·split
  ·exact .ok _ _
  ·split
   ·exact (Fine.want _ _).bind fun _ _ _ => .ok _ _
   ·exact .ok _ _
theorem zmi {l : List Tok} (hl : TokOK l) : ∀ (f : Nat),
  (∀ p form, p < l.length -> 4 * (l.length - p) + 3 <= f -> Fine l (zdZ l f p form)) /\
  (∀ p form e own, p < l.length -> 4 * (l.length - p) + 2 <= f -> Fine l (zef l f form e own p)) /\
  (∀ p form, p < l.length -> 4 * (l.length - p) + 2 <= f -> Fine l (zbl l f p form)) /\
  (∀ p, p < l.length -> 4 * (l.length - p) + 1 <= f -> Fine l (zaZ l f p))
 | 0 => ⟨fun _ _ _ h => by omega, fun _ _ _ _ _ h => by omega, fun _ _ _ h => by omega, fun _ _ h => by omega⟩
 | f + 1 => by
  obtain ⟨he, hlo, hpr, hpm⟩ := zmi hl f;obtain ⟨le, llo, lpr, lpm⟩ := zbF hl f;refine ⟨fun p form hp hf => ?_, fun p form e own hp hf => ?_, fun p form hp hf => ?_, fun p hp hf => ?_⟩
  ·rw [zdZ];refine (hpr p form hp (by omega)).bind fun a q hq => ?_;have g := lpr _ _ _ _ hq hp;exact hlo _ _ _ _ g.2 (by omega)
  ·rw [zef];split
   ·exact .ok _ _
   ·rename_i x hx;have hb := List.find?_some hx;have hp2 := zaO hl hb;split
    ·exact .ok _ _
    ·refine (he (p + 1) _ hp2 (by omega)).bind fun a q hq => ?_;have g := le _ _ _ _ hq hp2;exact hlo _ _ _ _ g.2 (by omega)
  ·rw [zbl];split
   ·rename_i hb;have hp2 := zaO hl hb.2;refine (he (p + 1) _ hp2 (by omega)).bind fun a q1 hq1 => ?_;have g1 := le _ _ _ _ hq1 hp2;refine (Fine.want _ _).bind fun _ q2 hq2 => ?_;have g2 := zaJ hl _ hq2 g1.2;refine (he q2 _ g2.2 (by omega)).bind fun b q3 hq3 => ?_;have g3 := le _ _ _ _ hq3 g2.2;refine (Fine.want _ _).bind fun _ q4 hq4 => ?_;have g4 := zaJ hl _ hq4 g3.2;exact (he q4 _ g4.2 (by omega)).bind fun _ _ _ => .ok _ _
   ·split
    ·rename_i hb;exact (he (p + 1) _ (zaO hl hb.2) (by omega)).bind fun _ _ _ => .ok _ _
    ·exact (hpm p hp (by omega)).bind fun _ _ _ => .ok _ _
  ·rw [zaZ];split
   ·rename_i hn;rw [List.getElem?_eq_none_iff] at hn;omega
   ·rename_i t ht;split
    ·exact (Fine.unit _).bind fun _ _ _ => .ok _ _
    ·split
     ·exact .ok _ _
     ·split
      ·exact .ok _ _
      ·split
       ·rename_i hb;have hp2 : p + 1 < l.length := hb.elim (zaO hl) (zaO hl);refine (Fine.want _ _).bind fun _ q1 hq1 => ?_;have g1 := zaJ hl _ hq1 hp2;refine (he q1 _ g1.2 (by omega)).bind fun a q2 hq2 => ?_;have g2 := le _ _ _ _ hq2 g1.2;refine (Fine.want _ _).bind fun _ q3 hq3 => ?_;have g3 := zaJ hl _ hq3 g2.2;refine (he q3 _ g3.2 (by omega)).bind fun b q4 hq4 => ?_;exact (Fine.want _ _).bind fun _ _ _ => .ok _ _
       ·split
        ·rename_i hb;refine (he (p + 1) _ (zaO hl hb) (by omega)).bind fun _ _ _ => ?_;exact (Fine.want _ _).bind fun _ _ _ => .ok _ _
        ·split
         ·exact .ok _ _
         ·rw [zlS ht];exact .stop _ _ (by decide)
theorem Fine.num {l : List Tok} {p : Nat} (hp : p < l.length) (a b : Int) : Fine l (zpt l p a b) := by
 unfold zpt;split
 ·rename_i hn;rw [List.getElem?_eq_none_iff] at hn;omega
 ·rename_i t ht;rw [zlS ht];split
  ·split
   ·exact .ok _ _
   ·exact .stop _ _ (by decide)
  ·exact .stop _ _ (by decide)
theorem Fine.part {l : List Tok} (hl : TokOK l) {p : Nat} (w : W8) (a b : Int) (ws : List W8) : Fine l (zdr l p w a b ws) := by
 unfold zdr;split
 ·rename_i hb;refine (Fine.num (zaO hl hb) a b).bind fun _ _ _ => ?_;exact (Fine.want _ _).bind fun _ _ _ => .ok _ _
 ·exact .ok _ _
theorem Fine.whole {l : List Tok} (hl : TokOK l) {p : Nat} (hp : p < l.length) : Fine l (zdu l p) := by
 unfold zdu;refine ((zmi hl _).1 p 0 hp (by omega)).bind fun _ _ _ => ?_;split
 ·split
  ·exact .ok _ _
  ·exact .stop _ _ (by decide)
 ·exact .stop _ _ (by decide)
theorem Fine.kind {l : List Tok} (p : Nat) : Fine l (zhu l p) := by
 unfold zhu;refine (Fine.want _ _).bind fun _ _ _ => ?_;split
 ·exact (Fine.want _ _).bind fun _ _ _ => .ok _ _
 ·split
  ·exact (Fine.want _ _).bind fun _ _ _ => .ok _ _
  ·refine (Fine.want _ _).bind fun _ _ _ => ?_;split
   ·exact (Fine.want _ _).bind fun _ _ _ => .ok _ _
   ·exact (Fine.want _ _).bind fun _ _ _ => .ok _ _
theorem Fine.order {l : List Tok} (p : Nat) : Fine l (ze3 l p) := by
 unfold ze3;split
 ·split
  ·exact (Fine.want _ _).bind fun _ _ _ => .ok _ _
  ·exact .stop _ _ (by decide)
 ·exact .ok _ _
theorem Fine.must {l : List Tok} (p : Nat) (w : W8) : Fine l (zgt l p w) := by
 unfold zgt;split
 ·exact .ok _ _
 ·exact .stop _ _ (by decide)
theorem Fine.lets {l : List Tok} (hl : TokOK l) : ∀ (f p : Nat) (acc : List Let), f + acc.length = 21 -> acc.length <= 20 -> p < l.length -> Fine l (zeQ l f p acc)
 | 0, p, acc, h, h2, _ => by omega
 | f + 1, p, acc, h, h2, hp => by
  rw [zeQ];split
  ·rename_i hb;have hp2 := zaO hl hb;split
   ·split
    ·rename_i hn;rw [List.getElem?_eq_none_iff] at hn;omega
    ·rename_i t ht;rw [zlS ht];split
     ·rename_i hk;split
      ·exact .stop _ _ (by decide)
      ·have hp3 := hl.fin (p + 1) t ht (by omega);refine (Fine.want _ _).bind fun _ q hq => ?_;have g1 := zaJ hl _ hq hp3;refine (Fine.whole hl g1.2).bind fun e r hr => ?_;have g2 := zdL hl hr g1.2;exact Fine.lets hl f r _ (by simp; omega) (by simp; omega) g2.2
     ·exact .stop _ _ (by decide)
   ·exact .stop _ _ (by decide)
  ·exact .ok _ _
theorem zl1 {l : List Tok} (hl : TokOK l) : ∀ (f p q : Nat) (acc L : List Let), zeQ l f p acc = .ok L q -> p < l.length -> p <= q /\ q < l.length
 | 0, p, q, acc, L, h, hp => by rw [zeQ] at h; cases h
 | f + 1, p, q, acc, L, h, hp => by
  rw [zeQ] at h;split at h
  ·rename_i hb;have hp2 := zaO hl hb;split at h
   ·split at h
    ·cases h
    ·rename_i t ht;split at h
     ·rename_i hk;split at h
      ·cases h
      ·have hp3 := hl.fin (p + 1) t ht (by omega);obtain ⟨_, r, h1, h⟩ := PR.zaC h;have g1 := zaJ hl _ h1 hp3;obtain ⟨_, r2, h2, h⟩ := PR.zaC h;have g2 := zdL hl h2 g1.2;have g3 := zl1 hl f r2 q _ L h g2.2;exact ⟨by omega, g3.2⟩
     ·cases h
   ·cases h
  ·cases h; exact ⟨Nat.le_refl _, hp⟩
theorem Fine.fin {l : List Tok} {p : Nat} (hp : p < l.length) : Fine l (zo2 l p) := by
 unfold zo2;split
 ·rename_i t ht;split
  ·exact .ok _ _
  ·rw [zlS ht]; exact .stop _ _ (by decide)
 ·rename_i hn;rw [List.getElem?_eq_none_iff] at hn;omega
def PosOK (s : W8) : Except (Nat × Int) (List Tok) -> Prop
 | .ok l => ∀ (i : Nat) (t : Tok), l[i]? = some t -> 0 <= t.pos /\ t.pos <= s.length
 | .error x => x.1 <= s.length /\ x.2 ≠ 0
theorem PosOK.at {s : W8} {l : List Tok} (h : PosOK s (.ok l)) (q : Nat) : 0 <= zbL l q /\ zbL l q <= s.length := by
 unfold zbL;split
 ·rename_i t ht;exact h q t ht
 ·omega
end Go.Proofs.YthnemhfamhnfjaaGreatDoor
