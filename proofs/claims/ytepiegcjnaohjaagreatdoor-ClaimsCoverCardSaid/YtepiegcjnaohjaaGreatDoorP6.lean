import Derived.Test.YtepiegcjnaohjaaGreatDoorP5
set_option linter.all false
set_option maxRecDepth 100000
set_option maxHeartbeats 8000000
namespace Go.Proofs.YtepiegcjnaohjaaGreatDoor
open Go Go.VL
attribute [local simp] HS zc6 zb2 evPure opd uOf zaC St.put St.at getK binD binI binS binB nilD aggD zhd zir lookD lookR zcB rangeS Go.VL.nextD Go.VL.nextS zcD ziF ziE zgE zbX mkV za8 zbj zbi zbh zc0 zbc zbq zbC mapEff zdd zf0 Key.kk shiftI arith unD convD zd4 loadD cellsAt fieldAddrD fieldD indexAddrD indexSlD arrAddr indexD sliceD cutD lenD minmaxD nilCheckD buildD fillD zbS zde zeV setAll zcM zeM zcv zhH zcr St.add zaS zbP rowsOf zdS zcw zak zac zaa zbm zcX zaQ entry zbI zbR valD zbU zcx zg2 zdv zdw zbZ zbO zaw zaR zbs delAll effD St.effS zdb zbk za1 zdc zbl za3 zcf za2 zaV zcg zc7 zbJ zcd zbt zcb zcc zau mkD zbw zbD zbN zaw zcu D.ids Op.operands Call.operands zbz makeIfD makeFuncD typeAssertD zio zdI zdJ zhX zcC IntKind.bits zcG List.take_of_length_le List.range_succ
attribute [local irreducible] V G H HD HD2 HD4 zmf RetX zap Eff CallP CallV EndOK Fun Ret FinOK LoopI LoopW EndW
theorem zp3 (s : List UInt8) (l : List Tok) (nx : Nat) (h : zmh s = .ok l) :
  RetX Tryz.prog 61 [.u (.str s)] [] nx (fun r o n => r = .val (.tup [.ptr nx 0, .u (.int .i64 0), .u (.int .i64 0)]) /\ o = [(nx, pOb l 0)] /\ n = nx + 1) := by
 have h1 := znl s;rw [h] at h1;simp only [zhx] at h1
 (refine RetX.of_bodyW Tryz.func61 rfl (by simp) fun Γ hn hpan => ?_); simp only [entry, ziC, ziN, maC, maN, oA, Tryz.ntmps61]
 repeat' (first
  | ((first | refine zag ?_ | refine zaj ?_ | refine zah ?_ | fail); simp)
  | (refine zar ?_; simp only [zap])
  | (refine CallP.fE (h1) (by first | rfl | fail) (by first | (simp; done) | (simp; rfl) | fail) ?_; (try simp))
  | fail)
 (refine EndW.here ?_; (first | (refine EndOK.fin (.inr rfl) ?_) | (refine EndOK.fin (.inl rfl) ?_)); simp [zaz, zaf, Tryz.results61]; refine FinOK.here (by simp) ?_; try simp)
theorem zoH (s : List UInt8) (p : Nat) (e : Int) (nx : Nat) (h : zmh s = .error (p, e)) :
  RetX Tryz.prog 61 [.u (.str s)] [] nx (fun r o n => r = .val (.tup [.ptr nx 0, .u (.int .i64 p), .u (.int .i64 e)]) /\ o = [(nx, pOb [] 0)] /\ n = nx + 1) := by
 have h1 := znl s;rw [h] at h1;simp only [zhx] at h1
 (refine RetX.of_bodyW Tryz.func61 rfl (by simp) fun Γ hn hpan => ?_); simp only [entry, ziC, ziN, maC, maN, oA, Tryz.ntmps61]
 repeat' (first
  | ((first | refine zag ?_ | refine zaj ?_ | refine zah ?_ | fail); simp)
  | (refine zar ?_; simp only [zap])
  | (refine CallP.fE (h1) (by first | rfl | fail) (by first | (simp; done) | (simp; rfl) | fail) ?_; (try simp))
  | fail)
 (refine EndW.here ?_; (first | (refine EndOK.fin (.inr rfl) ?_) | (refine EndOK.fin (.inl rfl) ?_)); simp [zaz, zaf, Tryz.results61]; refine FinOK.here (by simp) ?_; try simp)
theorem zko (i j nx : Nat) (hi : i < nx) (hj : j < nx) (hij : i ≠ j) (p e : Int) :
  RetX Tryz.prog 63 [.u (.oth .nilIface), .ptr i 0, .ptr j 0] [(i, .box [.u (.int .i64 p)]), (j, .box [.u (.int .i64 e)])] nx
   (fun r o n => r = .val (.u (.bool false)) /\ o = [(i, .box [.u (.int .i64 p)]), (j, .box [.u (.int .i64 e)])] /\ n = nx) := by
 have hne := zaP hi;have hne2 := zaP hj
 (refine RetX.of_bodyW Tryz.func63 rfl (by simp) fun Γ hn hpan => ?_); simp only [entry, ziC, ziN, maC, maN, oA, Tryz.ntmps63]
 repeat' (first
  | ((first | refine zag ?_ | refine zaj ?_ | refine zah ?_ | fail); simp [hne, hne2, hij, Ne.symm hij])
  | fail)
 refine ⟨[.int .i64 0, .int .i64 0], rfl, ?_⟩
 repeat' (first
  | ((first | refine zag ?_ | refine zaj ?_ | refine zah ?_ | refine zai ?_ | fail); simp [hne, hne2, hij, Ne.symm hij])
  | ((first | refine zar ?_ | refine zaq ?_ | fail); simp only [zap])
  | fail)
 (refine EndW.here ?_; (first | (refine EndOK.fin (.inr rfl) ?_) | (refine EndOK.fin (.inl rfl) ?_)); simp [zaz, zaf, Tryz.results63, hne, hne2, hij, Ne.symm hij, hi, hj]; refine FinOK.cut [(i, .box [.u (.int .i64 p)]), (j, .box [.u (.int .i64 e)])] (nx) (by simp [zaa, getK, zab, zac, Ob.under, D.under, zad, zae, hne, hne2, hij, Ne.symm hij, hi, hj] <;> omega) (by simp [D.under]) (by simp [hn]) ?_; try simp)
theorem zkn (i j nx : Nat) (hi : i < nx) (hj : j < nx) (hij : i ≠ j) (p e pos err : Int) :
  RetX Tryz.prog 63 [.u (.oth (.iface 194 (.agg #[.int .i64 pos, .int .i64 err]))), .ptr i 0, .ptr j 0] [(i, .box [.u (.int .i64 p)]), (j, .box [.u (.int .i64 e)])] nx
   (fun r o n => r = .val (.u (.bool true)) /\ o = [(i, .box [.u (.int .i64 pos)]), (j, .box [.u (.int .i64 err)])] /\ n = nx) := by
 have hne := zaP hi;have hne2 := zaP hj
 (refine RetX.of_bodyW Tryz.func63 rfl (by simp) fun Γ hn hpan => ?_); simp only [entry, ziC, ziN, maC, maN, oA, Tryz.ntmps63]
 repeat' (first
  | ((first | refine zag ?_ | refine zaN rfl ?_ | refine zci rfl ?_ | refine zaj ?_ | refine zah ?_ | refine zai ?_ | fail); simp [hne, hne2, hij, Ne.symm hij])
  | (refine za4 (hC _ (zbn [i, j] nx (by simp <;> omega) (by simp <;> omega) (by apply Exists.intro; apply And.intro; (focus (repeat' (first | exact KF.nil | exact KL.nil | apply KF.cons | apply KL.cons 0 rfl | apply KL.cons 1 rfl | apply KL.cons 2 rfl | apply KL.cons 3 rfl | apply KL.cons 4 rfl | apply KL.cons 5 rfl | apply KL.cons 6 rfl | apply KL.cons 7 rfl | apply KL.cons 8 rfl | apply KL.cons 9 rfl))); kernel_rfl))) (hk _ ?_); clear hC hk C k; simp only [zap])
  | (refine zaM rfl (by kernel_rfl) (by first | (simp [hn]; done) | (simp [hn]; omega) | fail) fun C k hC hk => ?_; simp [hne, hne2, hij, Ne.symm hij])
  | ((first | refine zar ?_ | refine zaq ?_ | fail); simp only [zap])
  | fail)
 (refine EndW.here ?_; (first | (refine EndOK.fin (.inr rfl) ?_) | (refine EndOK.fin (.inl rfl) ?_)); simp [zaz, zaf, Tryz.results63, hne, hne2, hij, Ne.symm hij, hi, hj]; refine FinOK.cut [(i, .box [.u (.int .i64 pos)]), (j, .box [.u (.int .i64 err)])] (nx) (by simp [zaa, getK, zab, zac, Ob.under, D.under, zad, zae, hne, hne2, hij, Ne.symm hij, hi, hj] <;> omega) (by simp [D.under]) (by simp [hn]) ?_; try simp)
theorem zhl (lets : List Let) (e : Exp) : Fun Tryz.prog 294 [.u (zax lets), zb7 e] (· = .u (.bool (zcz lets e))) := by
 have h1 := znB lets [] e;have hk : okJ lets [] e = zcA lets e := by simp [okJ]
 unfold zcz;unfold znC at h1;rw [hk] at h1;cases hK : zcA lets e
 ·rw [hK] at h1;simp only [zax, zeT, zb7, Bool.false_eq_true, if_false, List.map_nil] at h1 ⊢
  (refine Fun.of_body Tryz.func294 rfl (by simp) fun Γ hn => ?_); simp only [entry, ziC, ziN, maC, maN, oA, Tryz.ntmps294]
  repeat' (first
  | ((first | refine zag ?_ | refine zaj ?_ | refine zah ?_ | fail); simp)
  | (refine zar ?_; simp only [zap])
  | (refine CallP.fE (h1) (by first | rfl | fail) (by first | (simp; done) | (simp; rfl) | fail) ?_; (try simp))
  | fail)
  (refine EndOK.val (.inr rfl) ?_; simp [zaz, zaf, zas, Tryz.results294])
 ·rw [hK] at h1;have h2 := zdN (gOf []) (mOf (gOf []) lets) 12 e (zlq hK).2.1;have hg : gOf [] = [] := rfl;rw [hg] at h1 h2;simp only [zax, zeT, zb7, if_true, jU, List.map_nil] at h1 h2 ⊢;generalize zeR (sF (mOf [] lets)) e = r at h2 ⊢
  (refine Fun.of_body Tryz.func294 rfl (by simp) fun Γ hn => ?_); simp only [entry, ziC, ziN, maC, maN, oA, Tryz.ntmps294]
  repeat' (first
  | ((first | refine zag ?_ | refine zaj ?_ | refine zah ?_ | fail); simp)
  | (refine zar ?_; simp only [zap])
  | (refine CallP.fE (h1) (by first | rfl | fail) (by first | (simp; done) | (simp; rfl) | fail) ?_; (try simp))
  | (refine CallP.fE (h2) (by first | rfl | fail) (by first | (simp; done) | (simp; rfl) | fail) ?_; (try simp))
  | fail)
  (refine EndOK.val (.inr rfl) ?_; simp [zaz, zaf, zas, Tryz.results294])
def chF (e : Int) : List PanicEntry := [{ v := .iface 270 (.agg #[.int .i64 e]), recovered := false }]
def zb5 : Except Int Int -> Out
 | .ok v => .val (.u (.int .i64 v))
 | .error e => .pan (chF e)
theorem zcV (b : Bool) : Fun Tryz.prog 270 [.u (.bool b)] (· = .u (.int .i64 (zcH b))) := by
 cases b
 all_goals
  (refine Fun.of_body Tryz.func270 rfl (by simp) fun Γ hn => ?_); simp only [entry, ziC, ziN, maC, maN, oA, Tryz.ntmps270]
  repeat' (first
  | ((first | refine zag ?_ | refine zaj ?_ | refine zah ?_ | refine zai ?_ | fail); simp)
  | ((first | refine zar ?_ | refine zaq ?_ | fail); simp only [zap])
  | fail)
  (refine EndOK.val (.inr rfl) ?_; simp [zaz, zaf, zas, Tryz.results270])
 all_goals (try rfl)
theorem zdV (n : Int) (nx : Nat) : RetX Tryz.prog 268 [.u (.int .i64 n)] [] nx (fun r o m => r = zb5 (zdz n) /\ o = [] /\ m = nx) := by
 unfold zdz;by_cases h1 : 1099511627776 < n
 ·(refine RetX.of_bodyW Tryz.func268 rfl (by simp) fun Γ hn hpan => ?_); simp only [entry, ziC, ziN, maC, maN, oA, Tryz.ntmps268]
  repeat' (first
  | ((first | refine zag ?_ | refine zaj ?_ | refine zah ?_ | refine zai ?_ | refine zat ?_ | fail); simp [h1])
  | fail)
  (refine hpan _ _ ⟨{ n := _, env := [], obs := [], next := nx }, (Wk.cut rfl (by simp [hn]) (by simp [wkO, zaa, getK, zab, zac, Ob.under, D.under, zad, zae]) (by simp [wkU, zam, zaa, getK, D.under]) (by simp [wkE, zam, zaa, getK])), by simp [hn], ?_⟩; try simp)
  all_goals try simp [h1, zb5, chF]
 ·by_cases h2 : n < -1099511627776
  ·(refine RetX.of_bodyW Tryz.func268 rfl (by simp) fun Γ hn hpan => ?_); simp only [entry, ziC, ziN, maC, maN, oA, Tryz.ntmps268]
   repeat' (first
  | ((first | refine zag ?_ | refine zaj ?_ | refine zah ?_ | refine zai ?_ | refine zat ?_ | fail); simp [h1, h2])
  | fail)
   (refine hpan _ _ ⟨{ n := _, env := [], obs := [], next := nx }, (Wk.cut rfl (by simp [hn]) (by simp [wkO, zaa, getK, zab, zac, Ob.under, D.under, zad, zae]) (by simp [wkU, zam, zaa, getK, D.under]) (by simp [wkE, zam, zaa, getK])), by simp [hn], ?_⟩; try simp)
   all_goals try simp [h1, h2, zb5, chF]
  ·(refine RetX.of_bodyW Tryz.func268 rfl (by simp) fun Γ hn hpan => ?_); simp only [entry, ziC, ziN, maC, maN, oA, Tryz.ntmps268]
   repeat' (first
  | ((first | refine zag ?_ | refine zaj ?_ | refine zah ?_ | refine zai ?_ | fail); simp [h1, h2])
  | ((first | refine zar ?_ | refine zaq ?_ | fail); simp only [zap])
  | fail)
   (refine EndW.here ?_; (first | (refine EndOK.fin (.inr rfl) ?_) | (refine EndOK.fin (.inl rfl) ?_)); simp [zaz, zaf, Tryz.results268]; refine FinOK.here (by simp) ?_; try simp)
   all_goals try simp [h1, h2, zb5]
theorem zfs (a b : Int) (hb : b ≠ 0) : (a.tdiv b).natAbs <= a.natAbs := by
 rw [Int.natAbs_tdiv];exact Nat.div_le_self _ _
theorem zg3 (a b : Int) : (a.tdiv b * b).natAbs <= a.natAbs := by
 rw [Int.natAbs_mul, Int.natAbs_tdiv];exact Nat.div_mul_le_self _ _
theorem zgM (a b : Int) (ha : -1000000000000000000 <= a /\ a <= 1000000000000000000) (hb : b ≠ 0) (hb2 : -1000000000000000000 <= b /\ b <= 1000000000000000000) :
  Fun Tryz.prog 296 [.u (.int .i64 a), .u (.int .i64 b)] (· = .u (.int .i64 (zfg a b))) := by
 have h1 := zfs a b hb;have h2 := zg3 a b;unfold zfg;generalize hq : a.tdiv b = q at *;generalize hp : q * b = p at *;by_cases c1 : p = a
 ·(refine Fun.of_body Tryz.func296 rfl (by simp) fun Γ hn => ?_); simp only [entry, ziC, ziN, maC, maN, oA, Tryz.ntmps296]
  repeat' (first
  | ((first | refine zag ?_ | refine zaj ?_ | fail); simp [hb, hq, hp, c1])
  | (refine ⟨by omega, ?_⟩)
  | ((first | refine zah ?_ | refine zai ?_ | fail); simp [hb, hq, hp, c1])
  | ((first | refine zar ?_ | refine zaq ?_ | fail); simp only [zap])
  | fail)
  (refine EndOK.val (.inr rfl) ?_; simp [zaz, zaf, zas, Tryz.results296])
  all_goals try simp [c1]
 ·by_cases c2 : a < 0 <;> by_cases c3 : b < 0
  all_goals
   (refine Fun.of_body Tryz.func296 rfl (by simp) fun Γ hn => ?_); simp only [entry, ziC, ziN, maC, maN, oA, Tryz.ntmps296]
   repeat' (first
  | ((first | refine zag ?_ | refine zaj ?_ | fail); simp [hb, hq, hp, c1, c2, c3])
  | (refine ⟨by omega, ?_⟩)
  | ((first | refine zah ?_ | refine zai ?_ | refine zat ?_ | fail); simp [hb, hq, hp, c1, c2, c3])
  | ((first | refine zar ?_ | refine zaq ?_ | fail); simp only [zap])
  | fail)
   (refine EndOK.val (.inr rfl) ?_; simp [zaz, zaf, zas, Tryz.results296])
  all_goals simp [c1, c2, c3]
theorem zls {a b L : Int} (hL : 0 <= L) (h1 : ¬ L.tdiv (max a (-a)) < b) (h2 : ¬ b < (-L).tdiv (max a (-a))) : -L <= a * b /\ a * b <= L := by
 have hm : (max a (-a)).natAbs = a.natAbs := by omega
 have h3 : (L.tdiv (max a (-a))).natAbs * a.natAbs <= L.natAbs := by
  rw [Int.natAbs_tdiv, hm];exact Nat.div_mul_le_self _ _
 have h4 : ((-L).tdiv (max a (-a))).natAbs * a.natAbs <= L.natAbs := by
  rw [Int.natAbs_tdiv, hm, Int.natAbs_neg];exact Nat.div_mul_le_self _ _
 have h5 : b.natAbs <= max (L.tdiv (max a (-a))).natAbs ((-L).tdiv (max a (-a))).natAbs := by omega
 have h6 : (a * b).natAbs <= L.natAbs := by
  rw [Int.natAbs_mul, Nat.mul_comm];refine Nat.le_trans (Nat.mul_le_mul_right _ h5) ?_;rcases Nat.le_total (L.tdiv (max a (-a))).natAbs ((-L).tdiv (max a (-a))).natAbs with h | h
  ·rw [Nat.max_eq_right h]; exact h4
  ·rw [Nat.max_eq_left h]; exact h3
 omega
theorem zeU (a b c : Int) (nx : Nat) (ha : inC a) (hb : inC b) (hc : 1 <= c /\ c <= 1000) :
  RetX Tryz.prog 295 [.u (.int .i64 a), .u (.int .i64 b), .u (.int .i64 c)] [] nx (fun r o m => r = zb5 (zfv a b c) /\ o = [] /\ m = nx) := by
 unfold inC at ha hb;unfold zfv;have hm : a ≠ 0 -> max a (-a) ≠ 0 := by omega
 have hL := zls (a := a) (b := b) (L := 1099511627777 * c) (by omega);have q1 := zfs (1099511627777 * c) (max a (-a));have q2 := zfs (-(1099511627777 * c)) (max a (-a));generalize hl : (1099511627777 * c : Int) = L at *;generalize hM : max a (-a) = M at *;generalize hq1 : L.tdiv M = Q1 at *;generalize hq2 : (-L).tdiv M = Q2 at *;by_cases c0 : a = 0
 ·subst c0;have hf := zgM 0 c (by omega) (by omega) (by omega);have hck := fun nx' => zdV (zfg 0 c) nx';rw [if_neg (by simp)];simp only [Int.zero_mul];cases hk : zdz (zfg 0 c) with
  | ok v =>
   simp only [hk, zb5] at hck ⊢
   (refine RetX.of_bodyW Tryz.func295 rfl (by simp) fun Γ hn hpan => ?_); simp only [entry, ziC, ziN, maC, maN, oA, Tryz.ntmps295]
   repeat' (first
  | ((first | refine zag ?_ | refine zaj ?_ | fail); simp [hl, hM, hq1, hq2])
  | (refine ⟨by omega, ?_⟩)
  | ((first | refine zah ?_ | refine zai ?_ | fail); simp [hl, hM, hq1, hq2])
  | ((first | refine zar ?_ | refine zaq ?_ | fail); simp only [zap])
  | (refine CallP.fE (hf) (by first | rfl | fail) (by first | simp [hl, hM, hq1, hq2] <;> rfl | fail) ?_; (try simp [hl, hM, hq1, hq2]))
  | (refine CallP.okL (hck _) (by first | (simp [hl, hM, hq1, hq2, zaa, getK, zab, zac, zak, zau, del]; done) | fail) (by rfl) (by rfl) ?_; (try simp [hl, hM, hq1, hq2, zbY, del]))
  | fail)
   (refine EndW.here ?_; (first | (refine EndOK.fin (.inr rfl) ?_) | (refine EndOK.fin (.inl rfl) ?_)); simp [zaz, zaf, Tryz.results295]; refine FinOK.here (by simp) ?_; try simp)
  | error e =>
   simp only [hk, zb5] at hck ⊢
   (refine RetX.of_bodyW Tryz.func295 rfl (by simp) fun Γ hn hpan => ?_); simp only [entry, ziC, ziN, maC, maN, oA, Tryz.ntmps295]
   repeat' (first
  | ((first | refine zag ?_ | refine zaj ?_ | fail); simp [hl, hM, hq1, hq2])
  | (refine ⟨by omega, ?_⟩)
  | ((first | refine zah ?_ | refine zai ?_ | fail); simp [hl, hM, hq1, hq2])
  | (refine zaq ?_; simp only [zap])
  | (refine CallP.fE (hf) (by first | rfl | fail) (by first | simp [hl, hM, hq1, hq2] <;> rfl | fail) ?_; (try simp [hl, hM, hq1, hq2]))
  | (refine CallP.ziD (hck _) (by first | (simp [hl, hM, hq1, hq2, zaa, getK, zab, zac, zak, zau, del]; done) | fail) (by rfl) (by first | assumption | (simp; done) | fail) (by rfl) (by simp) ?_; refine ⟨_, Wk.refl _, ?_⟩; (try simp [hl, hM, hq1, hq2, zbY, del]))
  | fail)
   (refine hpan _ _ ⟨{ n := _, env := [], obs := [], next := nx }, (Wk.cut rfl (by simp [hn]) (by simp [wkO, zaa, getK, zab, zac, Ob.under, D.under, zad, zae]) (by simp [wkU, zam, zaa, getK, D.under]) (by simp [wkE, zam, zaa, getK])), by simp [hn], ?_⟩; try simp)
 have hM0 := hm c0;have q1 := q1 hM0;have q2 := q2 hM0;by_cases c1 : Q1 < b
 ·rw [if_pos ⟨c0, .inl c1⟩]
  (refine RetX.of_bodyW Tryz.func295 rfl (by simp) fun Γ hn hpan => ?_); simp only [entry, ziC, ziN, maC, maN, oA, Tryz.ntmps295]
  repeat' (first
  | ((first | refine zag ?_ | refine zaj ?_ | fail); simp [c0, c1, hl, hM, hM0, hq1, hq2])
  | (refine ⟨by omega, ?_⟩)
  | ((first | refine zah ?_ | refine zai ?_ | refine zat ?_ | fail); simp [c0, c1, hl, hM, hM0, hq1, hq2])
  | fail)
  (refine hpan _ _ ⟨{ n := _, env := [], obs := [], next := nx }, (Wk.cut rfl (by simp [hn]) (by simp [wkO, zaa, getK, zab, zac, Ob.under, D.under, zad, zae]) (by simp [wkU, zam, zaa, getK, D.under]) (by simp [wkE, zam, zaa, getK])), by simp [hn], ?_⟩; try simp)
  all_goals (try simp [zb5, chF])
 by_cases c2 : b < Q2
 ·rw [if_pos ⟨c0, .inr c2⟩]
  (refine RetX.of_bodyW Tryz.func295 rfl (by simp) fun Γ hn hpan => ?_); simp only [entry, ziC, ziN, maC, maN, oA, Tryz.ntmps295]
  repeat' (first
  | ((first | refine zag ?_ | refine zaj ?_ | fail); simp [c0, c1, c2, hl, hM, hM0, hq1, hq2])
  | (refine ⟨by omega, ?_⟩)
  | ((first | refine zah ?_ | refine zai ?_ | refine zat ?_ | fail); simp [c0, c1, c2, hl, hM, hM0, hq1, hq2])
  | fail)
  (refine hpan _ _ ⟨{ n := _, env := [], obs := [], next := nx }, (Wk.cut rfl (by simp [hn]) (by simp [wkO, zaa, getK, zab, zac, Ob.under, D.under, zad, zae]) (by simp [wkU, zam, zaa, getK, D.under]) (by simp [wkE, zam, zaa, getK])), by simp [hn], ?_⟩; try simp)
  all_goals (try simp [zb5, chF])
 rw [if_neg (by rintro ⟨_, h | h⟩ <;> contradiction)];obtain ⟨hL1, hL2⟩ := hL c1 c2;have hf := zgM (a * b) c (by omega) (by omega) (by omega);have hck := fun nx' => zdV (zfg (a * b) c) nx';cases hk : zdz (zfg (a * b) c) with
 | ok v =>
  simp only [hk, zb5] at hck ⊢
  (refine RetX.of_bodyW Tryz.func295 rfl (by simp) fun Γ hn hpan => ?_); simp only [entry, ziC, ziN, maC, maN, oA, Tryz.ntmps295]
  repeat' (first
  | ((first | refine zag ?_ | refine zaj ?_ | fail); simp [c0, c1, c2, hl, hM, hM0, hq1, hq2])
  | (refine ⟨by omega, ?_⟩)
  | ((first | refine zah ?_ | refine zai ?_ | fail); simp [c0, c1, c2, hl, hM, hM0, hq1, hq2])
  | ((first | refine zar ?_ | refine zaq ?_ | fail); simp only [zap])
  | (refine CallP.fE (hf) (by first | rfl | fail) (by first | simp [c0, c1, c2, hl, hM, hM0, hq1, hq2] <;> rfl | fail) ?_; (try simp [c0, c1, c2, hl, hM, hM0, hq1, hq2]))
  | (refine CallP.okL (hck _) (by first | (simp [c0, c1, c2, hl, hM, hM0, hq1, hq2, zaa, getK, zab, zac, zak, zau, del]; done) | fail) (by rfl) (by rfl) ?_; (try simp [c0, c1, c2, hl, hM, hM0, hq1, hq2, zbY, del]))
  | fail)
  (refine EndW.here ?_; (first | (refine EndOK.fin (.inr rfl) ?_) | (refine EndOK.fin (.inl rfl) ?_)); simp [zaz, zaf, Tryz.results295]; refine FinOK.here (by simp) ?_; try simp)
 | error e =>
  simp only [hk, zb5] at hck ⊢
  (refine RetX.of_bodyW Tryz.func295 rfl (by simp) fun Γ hn hpan => ?_); simp only [entry, ziC, ziN, maC, maN, oA, Tryz.ntmps295]
  repeat' (first
  | ((first | refine zag ?_ | refine zaj ?_ | fail); simp [c0, c1, c2, hl, hM, hM0, hq1, hq2])
  | (refine ⟨by omega, ?_⟩)
  | ((first | refine zah ?_ | refine zai ?_ | fail); simp [c0, c1, c2, hl, hM, hM0, hq1, hq2])
  | (refine zaq ?_; simp only [zap])
  | (refine CallP.fE (hf) (by first | rfl | fail) (by first | simp [c0, c1, c2, hl, hM, hM0, hq1, hq2] <;> rfl | fail) ?_; (try simp [c0, c1, c2, hl, hM, hM0, hq1, hq2]))
  | (refine CallP.ziD (hck _) (by first | (simp [c0, c1, c2, hl, hM, hM0, hq1, hq2, zaa, getK, zab, zac, zak, zau, del]; done) | fail) (by rfl) (by first | assumption | (simp; done) | fail) (by rfl) (by simp) ?_; refine ⟨_, Wk.refl _, ?_⟩; (try simp [c0, c1, c2, hl, hM, hM0, hq1, hq2, zbY, del]))
  | fail)
  (refine hpan _ _ ⟨{ n := _, env := [], obs := [], next := nx }, (Wk.cut rfl (by simp [hn]) (by simp [wkO, zaa, getK, zab, zac, Ob.under, D.under, zad, zae]) (by simp [wkU, zam, zaa, getK, D.under]) (by simp [wkE, zam, zaa, getK])), by simp [hn], ?_⟩; try simp)
abbrev mOb (lets : List Let) (r : Nat) (g : GM) : Ob := .box [.u (zax lets), .vec r lets.length, .u (.map .s false (zke g))]
theorem zmd (lets : List Let) (r : Nat) (g : GM) (m nx : Nat) (hm : m < nx) (hr : r < nx) (e x y : Exp) (a b : Int) (n : Nat) (hnl : n <= lets.length) (hl : lets.length <= 20) (he : e.args = [x, y]) (ha : inC a) (hb : inC b)
  (hop : 2 <= e.op /\ e.op <= 9) :
  RetX Tryz.prog 271 [.ptr m 0, zb7 e, .u (.int .i64 a), .u (.int .i64 b), .u (.int .i64 n)] [(m, mOb lets r g)] nx
   (fun o obs n' => o = zb5 (zhf e.op (zcz (lets.take n) x || zcz (lets.take n) y) a b) /\ obs = [(m, mOb lets r g)] /\ n' = nx) := by
 have hne := nef hm;have hab := ha;have hbb := hb;unfold inC at ha hb;have hf := zcV true;unfold mOb zax zb7;rw [he];simp only [List.map_cons, List.map_nil];by_cases c : e.op = 2
 ·obtain ⟨Z, hZ⟩ : ∃ Z, a + b = Z := ⟨_, rfl⟩;have hck := fun nx' => zdV Z nx';rw [c, show ∀ sh, zhf 2 sh a b = zdz Z from fun sh => by rw [<- hZ]; rfl];cases hk : zdz Z with
  | ok v =>
   simp only [hk, zb5] at hck ⊢
   (refine RetX.of_bodyW Tryz.func271 rfl (by simp) fun Γ hn hpan => ?_); simp only [entry, ziC, ziN, maC, maN, oA, Tryz.ntmps271]
   repeat' (first
  | ((first | refine zag ?_ | refine zaj ?_ | fail); simp [c, hne, hZ])
  | (refine ⟨by omega, ?_⟩)
  | ((first | refine zah ?_ | refine zai ?_ | refine zao ?_ | fail); simp [c, hne, hZ])
  | (refine zar ?_; simp only [zap])
  | (refine CallP.okL (hck _) (by first | (simp [c, hne, hZ, zaa, getK, zab, zac, zak, zau, del]; done) | fail) (by rfl) (by rfl) ?_; (try simp [c, hne, hZ, zbY, del]))
  | fail)
   (refine EndW.here ?_; (first | (refine EndOK.fin (.inr rfl) ?_) | (refine EndOK.fin (.inl rfl) ?_)); simp [zaz, zaf, Tryz.results271, hne, hm, hr, zax]; refine FinOK.cut [(m, mOb lets r g)] (nx) (by simp [zaa, getK, zab, zac, Ob.under, D.under, zad, zae, hne, hm, hr, zax] <;> omega) (by simp [D.under]) (by simp [hn]) ?_; try simp)
   all_goals rfl
  | error err =>
   simp only [hk, zb5] at hck ⊢
   (refine RetX.of_bodyW Tryz.func271 rfl (by simp) fun Γ hn hpan => ?_); simp only [entry, ziC, ziN, maC, maN, oA, Tryz.ntmps271]
   repeat' (first
  | ((first | refine zag ?_ | refine zaj ?_ | fail); simp [c, hne, hZ])
  | (refine ⟨by omega, ?_⟩)
  | ((first | refine zah ?_ | refine zai ?_ | refine zao ?_ | fail); simp [c, hne, hZ])
  | (refine CallP.ziD (hck _) (by first | (simp [c, hne, hZ, zaa, getK, zab, zac, zak, zau, del]; done) | fail) (by rfl) (by first | assumption | (simp; done) | fail) (by rfl) (by simp) ?_; refine ⟨_, Wk.refl _, ?_⟩; (try simp [c, hne, hZ, zbY, del]))
  | fail)
   (refine hpan _ _ ⟨{ n := _, env := [], obs := [(m, mOb lets r g)], next := nx }, (Wk.cut rfl (by simp [hn]) (by simp [wkO, zaa, getK, zab, zac, Ob.under, D.under, zad, zae, hm, hr, hne, zax, zab, zac, zaa, getK]) (by simp [wkU, zam, zaa, getK, D.under, hm, hr, hne, zax, zab, zac, zaa, getK]) (by simp [wkE, zam, zaa, getK, hm, hr, hne, zax, zab, zac, zaa, getK])), by simp [hn], ?_⟩; try simp)
   all_goals rfl
 by_cases c : e.op = 3
 ·obtain ⟨Z, hZ⟩ : ∃ Z, a - b = Z := ⟨_, rfl⟩;have hck := fun nx' => zdV Z nx';rw [c, show ∀ sh, zhf 3 sh a b = zdz Z from fun sh => by rw [<- hZ]; rfl];cases hk : zdz Z with
  | ok v =>
   simp only [hk, zb5] at hck ⊢
   (refine RetX.of_bodyW Tryz.func271 rfl (by simp) fun Γ hn hpan => ?_); simp only [entry, ziC, ziN, maC, maN, oA, Tryz.ntmps271]
   repeat' (first
  | ((first | refine zag ?_ | refine zaj ?_ | fail); simp [c, hne, hZ])
  | (refine ⟨by omega, ?_⟩)
  | ((first | refine zah ?_ | refine zai ?_ | refine zao ?_ | fail); simp [c, hne, hZ])
  | (refine zar ?_; simp only [zap])
  | (refine CallP.okL (hck _) (by first | (simp [c, hne, hZ, zaa, getK, zab, zac, zak, zau, del]; done) | fail) (by rfl) (by rfl) ?_; (try simp [c, hne, hZ, zbY, del]))
  | fail)
   (refine EndW.here ?_; (first | (refine EndOK.fin (.inr rfl) ?_) | (refine EndOK.fin (.inl rfl) ?_)); simp [zaz, zaf, Tryz.results271, hne, hm, hr, zax]; refine FinOK.cut [(m, mOb lets r g)] (nx) (by simp [zaa, getK, zab, zac, Ob.under, D.under, zad, zae, hne, hm, hr, zax] <;> omega) (by simp [D.under]) (by simp [hn]) ?_; try simp)
   all_goals rfl
  | error err =>
   simp only [hk, zb5] at hck ⊢
   (refine RetX.of_bodyW Tryz.func271 rfl (by simp) fun Γ hn hpan => ?_); simp only [entry, ziC, ziN, maC, maN, oA, Tryz.ntmps271]
   repeat' (first
  | ((first | refine zag ?_ | refine zaj ?_ | fail); simp [c, hne, hZ])
  | (refine ⟨by omega, ?_⟩)
  | ((first | refine zah ?_ | refine zai ?_ | refine zao ?_ | fail); simp [c, hne, hZ])
  | (refine CallP.ziD (hck _) (by first | (simp [c, hne, hZ, zaa, getK, zab, zac, zak, zau, del]; done) | fail) (by rfl) (by first | assumption | (simp; done) | fail) (by rfl) (by simp) ?_; refine ⟨_, Wk.refl _, ?_⟩; (try simp [c, hne, hZ, zbY, del]))
  | fail)
   (refine hpan _ _ ⟨{ n := _, env := [], obs := [(m, mOb lets r g)], next := nx }, (Wk.cut rfl (by simp [hn]) (by simp [wkO, zaa, getK, zab, zac, Ob.under, D.under, zad, zae, hm, hr, hne, zax, zab, zac, zaa, getK]) (by simp [wkU, zam, zaa, getK, D.under, hm, hr, hne, zax, zab, zac, zaa, getK]) (by simp [wkE, zam, zaa, getK, hm, hr, hne, zax, zab, zac, zaa, getK])), by simp [hn], ?_⟩; try simp)
   all_goals rfl
 by_cases c : e.op = 4
 ·have hs1 := zhl (lets.take n) x;have hs2 := zhl (lets.take n) y;rw [c];simp only [zax, List.map_take, zb7] at hs1 hs2;rw [Exp.row_eq x, Exp.row_eq y];cases hx : zcz (lets.take n) x
  ·rw [hx] at hs1;cases hy : zcz (lets.take n) y
   ·rw [hy] at hs2;have hck := fun nx' => zeU a b 1 nx' hab hbb (by omega);rw [show zhf 4 (false || false) a b = zfv a b 1 from rfl];cases hk : zfv a b 1 with
    | ok v =>
     simp only [hk, zb5] at hck ⊢
     (refine RetX.of_bodyW Tryz.func271 rfl (by simp) fun Γ hn hpan => ?_); simp only [entry, ziC, ziN, maC, maN, oA, Tryz.ntmps271]
     repeat' (first
  | ((first | refine zag ?_ | refine zaN rfl ?_ | refine zcF rfl ?_ | refine zaj ?_ | fail); simp [c, hne, del])
  | (refine ⟨by omega, ?_⟩)
  | ((first | refine zah ?_ | refine zai ?_ | fail); simp [c, hne, del])
  | (refine za4 (hC _ (zbn [m] nx (by simp <;> omega) (by simp <;> omega) (by apply Exists.intro; apply And.intro; (focus (repeat' (first | exact KF.nil | exact KL.nil | apply KF.cons | apply KL.cons 0 rfl | apply KL.cons 1 rfl | apply KL.cons 2 rfl | apply KL.cons 3 rfl | apply KL.cons 4 rfl | apply KL.cons 5 rfl | apply KL.cons 6 rfl | apply KL.cons 7 rfl | apply KL.cons 8 rfl | apply KL.cons 9 rfl))); kernel_rfl))) (hk _ ?_); clear hC hk C k; simp only [zap])
  | (refine zaM rfl (by kernel_rfl) (by first | (simp [hn]; done) | (simp [hn]; omega) | fail) fun C k hC hk => ?_; simp [c, hne, del])
  | (refine zbQ rfl (by simp [c, hne, del]) (fun hc => ?_) (fun hc => ?_) <;> (try simp [c, hne, del] at hc) <;> (try (exfalso; omega)) <;> (try simp [c, hne, del]))
  | (refine zao ?_; simp [c, hne, del])
  | ((first | refine zar ?_ | refine zaq ?_ | fail); simp only [zap])
  | (refine CallV.fun_ (hs1) (by first | rfl | fail) (by first | simp [c, hne, del] <;> rfl | fail) ?_ <;> (try simp [c, hne, del]))
  | (refine CallV.fun_ (hs2) (by first | rfl | fail) (by first | simp [c, hne, del] <;> rfl | fail) ?_ <;> (try simp [c, hne, del]))
  | (refine CallP.okL (hck _) (by first | (simp [c, hne, del, zaa, getK, zab, zac, zak, zau, del]; done) | fail) (by rfl) (by rfl) ?_; (try simp [c, hne, del, zbY, del]))
  | fail)
     (refine EndW.here ?_; (first | (refine EndOK.fin (.inr rfl) ?_) | (refine EndOK.fin (.inl rfl) ?_)); simp [zaz, zaf, Tryz.results271, hne, hm, hr, zax]; refine FinOK.cut [(m, mOb lets r g)] (nx) (by simp [zaa, getK, zab, zac, Ob.under, D.under, zad, zae, hne, hm, hr, zax] <;> omega) (by simp [D.under]) (by simp [hn]) ?_; try simp)
     all_goals rfl
    | error err =>
     simp only [hk, zb5] at hck ⊢
     (refine RetX.of_bodyW Tryz.func271 rfl (by simp) fun Γ hn hpan => ?_); simp only [entry, ziC, ziN, maC, maN, oA, Tryz.ntmps271]
     repeat' (first
  | ((first | refine zag ?_ | refine zaN rfl ?_ | refine zcF rfl ?_ | refine zaj ?_ | fail); simp [c, hne, del])
  | (refine ⟨by omega, ?_⟩)
  | ((first | refine zah ?_ | refine zai ?_ | fail); simp [c, hne, del])
  | (refine za4 (hC _ (zbn [m] nx (by simp <;> omega) (by simp <;> omega) (by apply Exists.intro; apply And.intro; (focus (repeat' (first | exact KF.nil | exact KL.nil | apply KF.cons | apply KL.cons 0 rfl | apply KL.cons 1 rfl | apply KL.cons 2 rfl | apply KL.cons 3 rfl | apply KL.cons 4 rfl | apply KL.cons 5 rfl | apply KL.cons 6 rfl | apply KL.cons 7 rfl | apply KL.cons 8 rfl | apply KL.cons 9 rfl))); kernel_rfl))) (hk _ ?_); clear hC hk C k; simp only [zap])
  | (refine zaM rfl (by kernel_rfl) (by first | (simp [hn]; done) | (simp [hn]; omega) | fail) fun C k hC hk => ?_; simp [c, hne, del])
  | (refine zbQ rfl (by simp [c, hne, del]) (fun hc => ?_) (fun hc => ?_) <;> (try simp [c, hne, del] at hc) <;> (try (exfalso; omega)) <;> (try simp [c, hne, del]))
  | (refine zao ?_; simp [c, hne, del])
  | (refine zaq ?_; simp only [zap])
  | (refine CallV.fun_ (hs1) (by first | rfl | fail) (by first | simp [c, hne, del] <;> rfl | fail) ?_ <;> (try simp [c, hne, del]))
  | (refine CallV.fun_ (hs2) (by first | rfl | fail) (by first | simp [c, hne, del] <;> rfl | fail) ?_ <;> (try simp [c, hne, del]))
  | (refine CallP.ziD (hck _) (by first | (simp [c, hne, del, zaa, getK, zab, zac, zak, zau, del]; done) | fail) (by rfl) (by first | assumption | (simp; done) | fail) (by rfl) (by simp) ?_; refine ⟨_, Wk.refl _, ?_⟩; (try simp [c, hne, del, zbY, del]))
  | fail)
     (refine hpan _ _ ⟨{ n := _, env := [], obs := [(m, mOb lets r g)], next := nx }, (Wk.cut rfl (by simp [hn]) (by simp [wkO, zaa, getK, zab, zac, Ob.under, D.under, zad, zae, hm, hr, hne, zax, zab, zac, zaa, getK]) (by simp [wkU, zam, zaa, getK, D.under, hm, hr, hne, zax, zab, zac, zaa, getK]) (by simp [wkE, zam, zaa, getK, hm, hr, hne, zax, zab, zac, zaa, getK])), by simp [hn], ?_⟩; try simp)
     all_goals rfl
   ·rw [hy] at hs2;have hck := fun nx' => zeU a b 1000 nx' hab hbb (by omega);rw [show zhf 4 (false || true) a b = zfv a b 1000 from rfl];cases hk : zfv a b 1000 with
    | ok v =>
     simp only [hk, zb5] at hck ⊢
     (refine RetX.of_bodyW Tryz.func271 rfl (by simp) fun Γ hn hpan => ?_); simp only [entry, ziC, ziN, maC, maN, oA, Tryz.ntmps271]
     repeat' (first
  | ((first | refine zag ?_ | refine zaN rfl ?_ | refine zcF rfl ?_ | refine zaj ?_ | fail); simp [c, hne, del])
  | (refine ⟨by omega, ?_⟩)
  | ((first | refine zah ?_ | refine zai ?_ | fail); simp [c, hne, del])
  | (refine za4 (hC _ (zbn [m] nx (by simp <;> omega) (by simp <;> omega) (by apply Exists.intro; apply And.intro; (focus (repeat' (first | exact KF.nil | exact KL.nil | apply KF.cons | apply KL.cons 0 rfl | apply KL.cons 1 rfl | apply KL.cons 2 rfl | apply KL.cons 3 rfl | apply KL.cons 4 rfl | apply KL.cons 5 rfl | apply KL.cons 6 rfl | apply KL.cons 7 rfl | apply KL.cons 8 rfl | apply KL.cons 9 rfl))); kernel_rfl))) (hk _ ?_); clear hC hk C k; simp only [zap])
  | (refine zaM rfl (by kernel_rfl) (by first | (simp [hn]; done) | (simp [hn]; omega) | fail) fun C k hC hk => ?_; simp [c, hne, del])
  | (refine zbQ rfl (by simp [c, hne, del]) (fun hc => ?_) (fun hc => ?_) <;> (try simp [c, hne, del] at hc) <;> (try (exfalso; omega)) <;> (try simp [c, hne, del]))
  | (refine zao ?_; simp [c, hne, del])
  | (refine zar ?_; simp only [zap])
  | (refine CallV.fun_ (hs1) (by first | rfl | fail) (by first | simp [c, hne, del] <;> rfl | fail) ?_ <;> (try simp [c, hne, del]))
  | (refine CallV.fun_ (hs2) (by first | rfl | fail) (by first | simp [c, hne, del] <;> rfl | fail) ?_ <;> (try simp [c, hne, del]))
  | (refine CallP.okL (hck _) (by first | (simp [c, hne, del, zaa, getK, zab, zac, zak, zau, del]; done) | fail) (by rfl) (by rfl) ?_; (try simp [c, hne, del, zbY, del]))
  | fail)
     (refine EndW.here ?_; (first | (refine EndOK.fin (.inr rfl) ?_) | (refine EndOK.fin (.inl rfl) ?_)); simp [zaz, zaf, Tryz.results271, hne, hm, hr, zax]; refine FinOK.cut [(m, mOb lets r g)] (nx) (by simp [zaa, getK, zab, zac, Ob.under, D.under, zad, zae, hne, hm, hr, zax] <;> omega) (by simp [D.under]) (by simp [hn]) ?_; try simp)
     all_goals rfl
    | error err =>
     simp only [hk, zb5] at hck ⊢
     (refine RetX.of_bodyW Tryz.func271 rfl (by simp) fun Γ hn hpan => ?_); simp only [entry, ziC, ziN, maC, maN, oA, Tryz.ntmps271]
     repeat' (first
  | ((first | refine zag ?_ | refine zaN rfl ?_ | refine zcF rfl ?_ | refine zaj ?_ | fail); simp [c, hne, del])
  | (refine ⟨by omega, ?_⟩)
  | ((first | refine zah ?_ | refine zai ?_ | fail); simp [c, hne, del])
  | (refine za4 (hC _ (zbn [m] nx (by simp <;> omega) (by simp <;> omega) (by apply Exists.intro; apply And.intro; (focus (repeat' (first | exact KF.nil | exact KL.nil | apply KF.cons | apply KL.cons 0 rfl | apply KL.cons 1 rfl | apply KL.cons 2 rfl | apply KL.cons 3 rfl | apply KL.cons 4 rfl | apply KL.cons 5 rfl | apply KL.cons 6 rfl | apply KL.cons 7 rfl | apply KL.cons 8 rfl | apply KL.cons 9 rfl))); kernel_rfl))) (hk _ ?_); clear hC hk C k; simp only [zap])
  | (refine zaM rfl (by kernel_rfl) (by first | (simp [hn]; done) | (simp [hn]; omega) | fail) fun C k hC hk => ?_; simp [c, hne, del])
  | (refine zbQ rfl (by simp [c, hne, del]) (fun hc => ?_) (fun hc => ?_) <;> (try simp [c, hne, del] at hc) <;> (try (exfalso; omega)) <;> (try simp [c, hne, del]))
  | (refine zao ?_; simp [c, hne, del])
  | (refine CallV.fun_ (hs1) (by first | rfl | fail) (by first | simp [c, hne, del] <;> rfl | fail) ?_ <;> (try simp [c, hne, del]))
  | (refine CallV.fun_ (hs2) (by first | rfl | fail) (by first | simp [c, hne, del] <;> rfl | fail) ?_ <;> (try simp [c, hne, del]))
  | (refine CallP.ziD (hck _) (by first | (simp [c, hne, del, zaa, getK, zab, zac, zak, zau, del]; done) | fail) (by rfl) (by first | assumption | (simp; done) | fail) (by rfl) (by simp) ?_; refine ⟨_, Wk.refl _, ?_⟩; (try simp [c, hne, del, zbY, del]))
  | fail)
     (refine hpan _ _ ⟨{ n := _, env := [], obs := [(m, mOb lets r g)], next := nx }, (Wk.cut rfl (by simp [hn]) (by simp [wkO, zaa, getK, zab, zac, Ob.under, D.under, zad, zae, hm, hr, hne, zax, zab, zac, zaa, getK]) (by simp [wkU, zam, zaa, getK, D.under, hm, hr, hne, zax, zab, zac, zaa, getK]) (by simp [wkE, zam, zaa, getK, hm, hr, hne, zax, zab, zac, zaa, getK])), by simp [hn], ?_⟩; try simp)
     all_goals rfl
  ·rw [hx] at hs1;have hck := fun nx' => zeU a b 1000 nx' hab hbb (by omega);rw [show ∀ z, zhf 4 (true || z) a b = zfv a b 1000 from fun z => rfl];cases hk : zfv a b 1000 with
   | ok v =>
    simp only [hk, zb5] at hck ⊢
    (refine RetX.of_bodyW Tryz.func271 rfl (by simp) fun Γ hn hpan => ?_); simp only [entry, ziC, ziN, maC, maN, oA, Tryz.ntmps271]
    repeat' (first
  | ((first | refine zag ?_ | refine zaN rfl ?_ | refine zaj ?_ | fail); simp [c, hne, del])
  | (refine ⟨by omega, ?_⟩)
  | ((first | refine zah ?_ | refine zai ?_ | fail); simp [c, hne, del])
  | (refine za4 (hC _ (zbn [m] nx (by simp <;> omega) (by simp <;> omega) (by apply Exists.intro; apply And.intro; (focus (repeat' (first | exact KF.nil | exact KL.nil | apply KF.cons | apply KL.cons 0 rfl | apply KL.cons 1 rfl | apply KL.cons 2 rfl | apply KL.cons 3 rfl | apply KL.cons 4 rfl | apply KL.cons 5 rfl | apply KL.cons 6 rfl | apply KL.cons 7 rfl | apply KL.cons 8 rfl | apply KL.cons 9 rfl))); kernel_rfl))) (hk _ ?_); clear hC hk C k; simp only [zap])
  | (refine zaM rfl (by kernel_rfl) (by first | (simp [hn]; done) | (simp [hn]; omega) | fail) fun C k hC hk => ?_; simp [c, hne, del])
  | (refine zbQ rfl (by simp [c, hne, del]) (fun hc => ?_) (fun hc => ?_) <;> (try simp [c, hne, del] at hc) <;> (try (exfalso; omega)) <;> (try simp [c, hne, del]))
  | (refine zao ?_; simp [c, hne, del])
  | (refine zar ?_; simp only [zap])
  | (refine CallV.fun_ (hs1) (by first | rfl | fail) (by first | simp [c, hne, del] <;> rfl | fail) ?_ <;> (try simp [c, hne, del]))
  | (refine CallP.okL (hck _) (by first | (simp [c, hne, del, zaa, getK, zab, zac, zak, zau, del]; done) | fail) (by rfl) (by rfl) ?_; (try simp [c, hne, del, zbY, del]))
  | fail)
    (refine EndW.here ?_; (first | (refine EndOK.fin (.inr rfl) ?_) | (refine EndOK.fin (.inl rfl) ?_)); simp [zaz, zaf, Tryz.results271, hne, hm, hr, zax]; refine FinOK.cut [(m, mOb lets r g)] (nx) (by simp [zaa, getK, zab, zac, Ob.under, D.under, zad, zae, hne, hm, hr, zax] <;> omega) (by simp [D.under]) (by simp [hn]) ?_; try simp)
    all_goals rfl
   | error err =>
    simp only [hk, zb5] at hck ⊢
    (refine RetX.of_bodyW Tryz.func271 rfl (by simp) fun Γ hn hpan => ?_); simp only [entry, ziC, ziN, maC, maN, oA, Tryz.ntmps271]
    repeat' (first
  | ((first | refine zag ?_ | refine zaN rfl ?_ | refine zaj ?_ | fail); simp [c, hne, del])
  | (refine ⟨by omega, ?_⟩)
  | ((first | refine zah ?_ | refine zai ?_ | fail); simp [c, hne, del])
  | (refine za4 (hC _ (zbn [m] nx (by simp <;> omega) (by simp <;> omega) (by apply Exists.intro; apply And.intro; (focus (repeat' (first | exact KF.nil | exact KL.nil | apply KF.cons | apply KL.cons 0 rfl | apply KL.cons 1 rfl | apply KL.cons 2 rfl | apply KL.cons 3 rfl | apply KL.cons 4 rfl | apply KL.cons 5 rfl | apply KL.cons 6 rfl | apply KL.cons 7 rfl | apply KL.cons 8 rfl | apply KL.cons 9 rfl))); kernel_rfl))) (hk _ ?_); clear hC hk C k; simp only [zap])
  | (refine zaM rfl (by kernel_rfl) (by first | (simp [hn]; done) | (simp [hn]; omega) | fail) fun C k hC hk => ?_; simp [c, hne, del])
  | (refine zbQ rfl (by simp [c, hne, del]) (fun hc => ?_) (fun hc => ?_) <;> (try simp [c, hne, del] at hc) <;> (try (exfalso; omega)) <;> (try simp [c, hne, del]))
  | (refine zao ?_; simp [c, hne, del])
  | (refine CallV.fun_ (hs1) (by first | rfl | fail) (by first | simp [c, hne, del] <;> rfl | fail) ?_ <;> (try simp [c, hne, del]))
  | (refine CallP.ziD (hck _) (by first | (simp [c, hne, del, zaa, getK, zab, zac, zak, zau, del]; done) | fail) (by rfl) (by first | assumption | (simp; done) | fail) (by rfl) (by simp) ?_; refine ⟨_, Wk.refl _, ?_⟩; (try simp [c, hne, del, zbY, del]))
  | fail)
    (refine hpan _ _ ⟨{ n := _, env := [], obs := [(m, mOb lets r g)], next := nx }, (Wk.cut rfl (by simp [hn]) (by simp [wkO, zaa, getK, zab, zac, Ob.under, D.under, zad, zae, hm, hr, hne, zax, zab, zac, zaa, getK]) (by simp [wkU, zam, zaa, getK, D.under, hm, hr, hne, zax, zab, zac, zaa, getK]) (by simp [wkE, zam, zaa, getK, hm, hr, hne, zax, zab, zac, zaa, getK])), by simp [hn], ?_⟩; try simp)
    all_goals rfl
 by_cases c : e.op = 5
 ·rw [c];by_cases hb0 : b = 0
  ·rw [show ∀ sh, zhf 5 sh a b = .error 15 from fun sh => by rw [hb0]; rfl];simp only [zb5, chF]
   (refine RetX.of_bodyW Tryz.func271 rfl (by simp) fun Γ hn hpan => ?_); simp only [entry, ziC, ziN, maC, maN, oA, Tryz.ntmps271]
   repeat' (first
  | ((first | refine zag ?_ | refine zaj ?_ | refine zah ?_ | refine zai ?_ | refine zao ?_ | refine zat ?_ | fail); simp [c, hne, hb0])
  | fail)
   (refine hpan _ _ ⟨{ n := _, env := [], obs := [(m, mOb lets r g)], next := nx }, (Wk.cut rfl (by simp [hn]) (by simp [wkO, zaa, getK, zab, zac, Ob.under, D.under, zad, zae, hm, hr, hne, zax, zab, zac, zaa, getK]) (by simp [wkU, zam, zaa, getK, D.under, hm, hr, hne, zax, zab, zac, zaa, getK]) (by simp [wkE, zam, zaa, getK, hm, hr, hne, zax, zab, zac, zaa, getK])), by simp [hn], ?_⟩; try simp)
   all_goals rfl
  ·obtain ⟨Z, hZ⟩ : ∃ Z, zfg a b = Z := ⟨_, rfl⟩;have hck := fun nx' => zdV Z nx';have hf := zgM a b (by omega) hb0 (by omega);rw [hZ] at hf;rw [show ∀ sh, zhf 5 sh a b = zdz Z from fun sh => by rw [<- hZ]; simp [zhf, hb0]];cases hk : zdz Z with
   | ok v =>
    simp only [hk, zb5] at hck ⊢
    (refine RetX.of_bodyW Tryz.func271 rfl (by simp) fun Γ hn hpan => ?_); simp only [entry, ziC, ziN, maC, maN, oA, Tryz.ntmps271]
    repeat' (first
  | ((first | refine zag ?_ | refine zaj ?_ | refine zah ?_ | refine zai ?_ | refine zao ?_ | fail); simp [c, hne, hb0])
  | ((first | refine zar ?_ | refine zaq ?_ | fail); simp only [zap])
  | (refine CallP.fE (hf) (by first | rfl | fail) (by first | simp [c, hne, hb0] <;> rfl | fail) ?_; (try simp [c, hne, hb0]))
  | (refine CallP.okL (hck _) (by first | (simp [c, hne, hb0, zaa, getK, zab, zac, zak, zau, del]; done) | fail) (by rfl) (by rfl) ?_; (try simp [c, hne, hb0, zbY, del]))
  | fail)
    (refine EndW.here ?_; (first | (refine EndOK.fin (.inr rfl) ?_) | (refine EndOK.fin (.inl rfl) ?_)); simp [zaz, zaf, Tryz.results271, hne, hm, hr, zax]; refine FinOK.cut [(m, mOb lets r g)] (nx) (by simp [zaa, getK, zab, zac, Ob.under, D.under, zad, zae, hne, hm, hr, zax] <;> omega) (by simp [D.under]) (by simp [hn]) ?_; try simp)
    all_goals rfl
   | error err =>
    simp only [hk, zb5] at hck ⊢
    (refine RetX.of_bodyW Tryz.func271 rfl (by simp) fun Γ hn hpan => ?_); simp only [entry, ziC, ziN, maC, maN, oA, Tryz.ntmps271]
    repeat' (first
  | ((first | refine zag ?_ | refine zaj ?_ | refine zah ?_ | refine zai ?_ | refine zao ?_ | fail); simp [c, hne, hb0])
  | (refine zaq ?_; simp only [zap])
  | (refine CallP.fE (hf) (by first | rfl | fail) (by first | simp [c, hne, hb0] <;> rfl | fail) ?_; (try simp [c, hne, hb0]))
  | (refine CallP.ziD (hck _) (by first | (simp [c, hne, hb0, zaa, getK, zab, zac, zak, zau, del]; done) | fail) (by rfl) (by first | assumption | (simp; done) | fail) (by rfl) (by simp) ?_; refine ⟨_, Wk.refl _, ?_⟩; (try simp [c, hne, hb0, zbY, del]))
  | fail)
    (refine hpan _ _ ⟨{ n := _, env := [], obs := [(m, mOb lets r g)], next := nx }, (Wk.cut rfl (by simp [hn]) (by simp [wkO, zaa, getK, zab, zac, Ob.under, D.under, zad, zae, hm, hr, hne, zax, zab, zac, zaa, getK]) (by simp [wkU, zam, zaa, getK, D.under, hm, hr, hne, zax, zab, zac, zaa, getK]) (by simp [wkE, zam, zaa, getK, hm, hr, hne, zax, zab, zac, zaa, getK])), by simp [hn], ?_⟩; try simp)
    all_goals rfl
 have ht := zcV (decide (a < b));by_cases c : e.op = 6
 ·rw [c, show ∀ sh, zhf 6 sh a b = .ok (min a b) from fun sh => rfl];simp only [zb5]
  (refine RetX.of_bodyW Tryz.func271 rfl (by simp) fun Γ hn hpan => ?_); simp only [entry, ziC, ziN, maC, maN, oA, Tryz.ntmps271]
  repeat' (first
  | ((first | refine zag ?_ | refine zaj ?_ | refine zah ?_ | refine zai ?_ | refine zao ?_ | fail); simp [c, hne])
  | (refine zar ?_; simp only [zap])
  | fail)
  (refine EndW.here ?_; (first | (refine EndOK.fin (.inr rfl) ?_) | (refine EndOK.fin (.inl rfl) ?_)); simp [zaz, zaf, Tryz.results271, hne, hm, hr, zax]; refine FinOK.cut [(m, mOb lets r g)] (nx) (by simp [zaa, getK, zab, zac, Ob.under, D.under, zad, zae, hne, hm, hr, zax] <;> omega) (by simp [D.under]) (by simp [hn]) ?_; try simp)
  all_goals rfl
 by_cases c : e.op = 7
 ·rw [c, show ∀ sh, zhf 7 sh a b = .ok (max a b) from fun sh => rfl];simp only [zb5]
  (refine RetX.of_bodyW Tryz.func271 rfl (by simp) fun Γ hn hpan => ?_); simp only [entry, ziC, ziN, maC, maN, oA, Tryz.ntmps271]
  repeat' (first
  | ((first | refine zag ?_ | refine zaj ?_ | refine zah ?_ | refine zai ?_ | refine zao ?_ | fail); simp [c, hne])
  | (refine zar ?_; simp only [zap])
  | fail)
  (refine EndW.here ?_; (first | (refine EndOK.fin (.inr rfl) ?_) | (refine EndOK.fin (.inl rfl) ?_)); simp [zaz, zaf, Tryz.results271, hne, hm, hr, zax]; refine FinOK.cut [(m, mOb lets r g)] (nx) (by simp [zaa, getK, zab, zac, Ob.under, D.under, zad, zae, hne, hm, hr, zax] <;> omega) (by simp [D.under]) (by simp [hn]) ?_; try simp)
  all_goals rfl
 by_cases c : e.op = 8
 ·rw [c, show ∀ sh, zhf 8 sh a b = .ok (zcH (decide (a < b))) from fun sh => rfl];simp only [zb5]
  (refine RetX.of_bodyW Tryz.func271 rfl (by simp) fun Γ hn hpan => ?_); simp only [entry, ziC, ziN, maC, maN, oA, Tryz.ntmps271]
  repeat' (first
  | ((first | refine zag ?_ | refine zaj ?_ | refine zah ?_ | refine zai ?_ | refine zao ?_ | fail); simp [c, hne])
  | (refine zar ?_; simp only [zap])
  | (refine CallP.fE (ht) (by first | rfl | fail) (by first | simp [c, hne] <;> rfl | fail) ?_; (try simp [c, hne]))
  | fail)
  (refine EndW.here ?_; (first | (refine EndOK.fin (.inr rfl) ?_) | (refine EndOK.fin (.inl rfl) ?_)); simp [zaz, zaf, Tryz.results271, hne, hm, hr, zax]; refine FinOK.cut [(m, mOb lets r g)] (nx) (by simp [zaa, getK, zab, zac, Ob.under, D.under, zad, zae, hne, hm, hr, zax] <;> omega) (by simp [D.under]) (by simp [hn]) ?_; try simp)
  all_goals rfl
 have c : e.op = 9 := by omega
 have ht := zcV (decide (a = b));rw [c, show ∀ sh, zhf 9 sh a b = .ok (zcH (decide (a = b))) from fun sh => rfl];simp only [zb5]
 (refine RetX.of_bodyW Tryz.func271 rfl (by simp) fun Γ hn hpan => ?_); simp only [entry, ziC, ziN, maC, maN, oA, Tryz.ntmps271]
 repeat' (first
  | ((first | refine zag ?_ | refine zaj ?_ | refine zah ?_ | refine zai ?_ | refine zao ?_ | fail); simp [c, hne])
  | ((first | refine zar ?_ | refine zaq ?_ | fail); simp only [zap])
  | (refine CallP.fE (ht) (by first | rfl | fail) (by first | simp [c, hne] <;> rfl | fail) ?_; (try simp [c, hne]))
  | fail)
 (refine EndW.here ?_; (first | (refine EndOK.fin (.inr rfl) ?_) | (refine EndOK.fin (.inl rfl) ?_)); simp [zaz, zaf, Tryz.results271, hne, hm, hr, zax]; refine FinOK.cut [(m, mOb lets r g)] (nx) (by simp [zaa, getK, zab, zac, Ob.under, D.under, zad, zae, hne, hm, hr, zax] <;> omega) (by simp [D.under]) (by simp [hn]) ?_; try simp)
 all_goals rfl
end Go.Proofs.YtepiegcjnaohjaaGreatDoor
namespace Go.Proofs.YtepiegcjnaohjaaGreatDoor
open Go Go.VL
section
variable {lets : List Let} {G : List UInt8 -> Option Int} {n : Nat} {e x y z : Exp} {t t1 t2 : Tab}
theorem zop (h : e.op = 0) : zbF lets G n e t = (zdz e.n, t) := by unfold zbF; rw [zcn, if_pos h]; rfl
theorem zmv (h : e.op = 1) : zbF lets G n e t = nmT lets G n e.s t := by unfold zbF; rw [zcn, if_neg (by omega), if_pos h]
theorem ze4 {l : List Exp} {er : Int} (h0 : e.op ≠ 0) (h1 : e.op ≠ 1) (ha : e.args = x :: l) (hx : zbF lets G n x t = (.error er, t1)) : zbF lets G n e t = (.error er, t1) := by
 unfold zbF at *;rw [zcn, if_neg h0, if_neg h1, ha, zcQ]
 repeat' split
 all_goals exact TM.zga hx
theorem zmy {l : List Exp} (h : e.op = 10) (ha : e.args = x :: l) (hx : zbF lets G n x t = (.ok 0, t1)) : zbF lets G n e t = (.ok 0, t1) := by
 unfold zbF at *;rw [zcn, if_neg (by omega), if_neg (by omega), if_pos h, ha, zcQ, TM.bind_ok hx, if_pos rfl]; rfl
theorem zmx {a er : Int} (h : e.op = 10) (ha : e.args = [x, y]) (hx : zbF lets G n x t = (.ok a, t1)) (h0 : a ≠ 0) (hy : zbF lets G n y t1 = (.error er, t2)) : zbF lets G n e t = (.error er, t2) := by
 unfold zbF at *;rw [zcn, if_neg (by omega), if_neg (by omega), if_pos h, ha, zcQ, TM.bind_ok hx, if_neg h0, zcQ, zcQ, TM.zga hy]
theorem zou {a b : Int} (h : e.op = 10) (ha : e.args = [x, y]) (hx : zbF lets G n x t = (.ok a, t1)) (h0 : a ≠ 0) (hy : zbF lets G n y t1 = (.ok b, t2)) : zbF lets G n e t = (.ok (zcH (decide (b ≠ 0))), t2) := by
 unfold zbF at *;rw [zcn, if_neg (by omega), if_neg (by omega), if_pos h, ha, zcQ, TM.bind_ok hx, if_neg h0, zcQ, zcQ, TM.bind_ok hy]; rfl
theorem zoo {l : List Exp} {a : Int} (h : e.op = 11) (ha : e.args = x :: l) (hx : zbF lets G n x t = (.ok a, t1)) (h0 : a ≠ 0) : zbF lets G n e t = (.ok 1, t1) := by
 unfold zbF at *;rw [zcn, if_neg (by omega), if_neg (by omega), if_neg (by omega), if_pos h, ha, zcQ, TM.bind_ok hx, if_pos h0]; rfl
theorem zon {er : Int} (h : e.op = 11) (ha : e.args = [x, y]) (hx : zbF lets G n x t = (.ok 0, t1)) (hy : zbF lets G n y t1 = (.error er, t2)) : zbF lets G n e t = (.error er, t2) := by
 unfold zbF at *;rw [zcn, if_neg (by omega), if_neg (by omega), if_neg (by omega), if_pos h, ha, zcQ, TM.bind_ok hx, if_neg (by simp), zcQ, zcQ, TM.zga hy]
theorem zpX {b : Int} (h : e.op = 11) (ha : e.args = [x, y]) (hx : zbF lets G n x t = (.ok 0, t1)) (hy : zbF lets G n y t1 = (.ok b, t2)) : zbF lets G n e t = (.ok (zcH (decide (b ≠ 0))), t2) := by
 unfold zbF at *;rw [zcn, if_neg (by omega), if_neg (by omega), if_neg (by omega), if_pos h, ha, zcQ, TM.bind_ok hx, if_neg (by simp), zcQ, zcQ, TM.bind_ok hy]; rfl
theorem zoq {a : Int} (h : e.op = 12) (ha : e.args = [x]) (hx : zbF lets G n x t = (.ok a, t1)) : zbF lets G n e t = (.ok (zcH (decide (a = 0))), t1) := by
 unfold zbF at *;rw [zcn, if_neg (by omega), if_neg (by omega), if_neg (by omega), if_neg (by omega), if_pos h, ha, zcQ, TM.bind_ok hx]; rfl
theorem zor {a : Int} (h : e.op = 13) (ha : e.args = [x, y, z]) (hx : zbF lets G n x t = (.ok a, t1)) (h0 : a ≠ 0) : zbF lets G n e t = zbF lets G n y t1 := by
 unfold zbF at *;rw [zcn, if_neg (by omega), if_neg (by omega), if_neg (by omega), if_neg (by omega), if_neg (by omega), if_pos h, ha, zcQ, TM.bind_ok hx, if_pos h0, zcQ, zcQ]
theorem zos (h : e.op = 13) (ha : e.args = [x, y, z]) (hx : zbF lets G n x t = (.ok 0, t1)) : zbF lets G n e t = zbF lets G n z t1 := by
 unfold zbF at *;rw [zcn, if_neg (by omega), if_neg (by omega), if_neg (by omega), if_neg (by omega), if_neg (by omega), if_pos h, ha, zcQ, TM.bind_ok hx, if_neg (by simp), zcQ, zcQ, zcQ]
theorem zmw {a er : Int} (h : 2 <= e.op /\ e.op <= 9) (ha : e.args = [x, y]) (hx : zbF lets G n x t = (.ok a, t1)) (hy : zbF lets G n y t1 = (.error er, t2)) : zbF lets G n e t = (.error er, t2) := by
 unfold zbF at *;rw [zcn, if_neg (by omega), if_neg (by omega), if_neg (by omega), if_neg (by omega), if_neg (by omega), if_neg (by omega), ha, zcQ, TM.bind_ok hx, zcQ, zcQ, TM.zga hy]
theorem zot {a b : Int} (h : 2 <= e.op /\ e.op <= 9) (ha : e.args = [x, y]) (hx : zbF lets G n x t = (.ok a, t1)) (hy : zbF lets G n y t1 = (.ok b, t2)) :
  zbF lets G n e t = (zhf e.op (zcz (lets.take n) x || zcz (lets.take n) y) a b, t2) := by
 unfold zbF at *;rw [zcn, if_neg (by omega), if_neg (by omega), if_neg (by omega), if_neg (by omega), if_neg (by omega), if_neg (by omega), ha, zcQ, TM.bind_ok hx, zcQ, zcQ, TM.bind_ok hy];simp [TM.ret]
end
abbrev tOb (t : Tab) : Ob := .vec 332 3 (t.map fun x => [.u (.int .i64 x.1), .u (.int .i64 x.2.1), .u (.bool x.2.2)])
abbrev eOb (e : Exp) : Ob := .box [.u (.int .i64 e.op), .u (.int .i64 e.n), .u (.int .i64 e.unit), .u (.str e.s), .u (.sl (e.args.map Exp.row))]
def zdx (lets : List Let) (r : Nat) (g : GM) (m n : Nat) (e : Exp) : Prop := ∀ (t : Tab) (nx : Nat), m < nx -> r < nx -> TabOK lets.length t ->
 RetX Tryz.prog 212 [.ptr m 0, zb7 e, .u (.int .i64 n)] [(m, mOb lets r g), (r, tOb t)] nx
  (fun o obs n' => o = zb5 (zbF lets (gF g) n e t).1 /\ obs = [(m, mOb lets r g), (r, tOb (zbF lets (gF g) n e t).2)] /\ n' = nx)
attribute [local simp] HS zc6 zb2 evPure opd uOf zaC St.put St.at getK binD binI binS binB nilD aggD zhd zir lookD lookR zcB rangeS Go.VL.nextD Go.VL.nextS zcD ziF ziE zgE zbX mkV za8 zbj zbi zbh zc0 zbc zbq zbC mapEff zdd zf0 Key.kk shiftI arith unD convD zd4 loadD cellsAt fieldAddrD fieldD indexAddrD indexSlD arrAddr indexD sliceD cutD lenD minmaxD nilCheckD buildD fillD zbS zde zeV setAll zcM zeM zcv zhH zcr St.add zaS zbP rowsOf zdS zcw zak zac zaa zbm zcX zaQ entry zbI zbR valD zbU zcx zg2 zdv zdw zbZ zbO zaw zaR zbs delAll effD St.effS zdb zbk za1 zdc zbl za3 zcf za2 zaV zcg zc7 zbJ zcd zbt zcb zcc zau mkD zbw zbD zbN zaw zcu D.ids Op.operands Call.operands zbz makeIfD makeFuncD typeAssertD zio zdI zdJ zhX zcC IntKind.bits zcG List.take_of_length_le List.range_succ
attribute [local irreducible] V G H HD HD2 HD4 zmf RetX zap Eff CallP CallV EndOK Fun Ret FinOK LoopI LoopW EndW
def zan (N : Nat) (t : Tab) : (∀ x ∈ t, ∀ y ∈ [D.u (.int .i64 x.1), D.u (.int .i64 x.2.1), D.u (.bool x.2.2)], D.under N y = true) := by
 intro x _ y hy;simp at hy;rcases hy with rfl | rfl | rfl <;> simp [D.under]
theorem zdu {lets : List Let} {r : Nat} {g : GM} {m n : Nat} {x : Exp} (hV : zdx lets r g m n x) (e : Exp) (ia : Nat) (hia : e.args[ia]? = some x) (hmr : m ≠ r) (N : Nat) (hm : m < N) (hr : r < N) (t : Tab) (nx : Nat) (hN : N + 3 <= nx) (ht : TabOK lets.length t) :
  RetX Tryz.prog 267 [.u (.int .i64 ia), .ptr N 0, .ptr (N + 1) 0, .ptr (N + 2) 0]
   [(N, .box [.ptr m 0]), (N + 1, eOb e), (N + 2, .box [.u (.int .i64 n)]), (m, mOb lets r g), (r, tOb t)] nx
   (fun o obs n' => o = zb5 (zbF lets (gF g) n x t).1 /\ obs = [(N, .box [.ptr m 0]), (N + 1, eOb e), (N + 2, .box [.u (.int .i64 n)]), (m, mOb lets r g), (r, tOb (zbF lets (gF g) n x t).2)] /\ n' = nx) := by
 have hne := nef hm;have hne2 := nef hr;have hv := fun nx' (h : N + 3 <= nx') => hV t nx' (by omega) (by omega) ht;have hil := (lGE.1 hia).1;unfold zb7 at hv;rcases hvl : zbF lets (gF g) n x t with ⟨er | v, t1⟩
 ·simp only [hvl, zb5] at hv ⊢
  (refine RetX.of_bodyW Tryz.func267 rfl (by simp) fun Γ hn hpan => ?_); simp only [entry, ziC, ziN, maC, maN, oA, Tryz.ntmps267]
  repeat' (first
  | (refine zgb (fun nx' h' => hv nx' (by simp at h'; omega)) (by first | (simp [hne, hne2, hmr, Ne.symm hmr, hia, Exp.row_eq, zan, zaa, getK, zab, zac, zak, zau, del]; done) | fail) (by rfl) (by first | assumption | (simp; done) | fail) (by rfl) (by simp) ?_ ?_; intro env' n' hn'; refine ⟨_, Wk.refl _, ?_⟩; (try simp [hne, hne2, hmr, Ne.symm hmr, hia, Exp.row_eq, zan, zbY, del]))
  | (refine zaN rfl ?_; simp [hne, hne2, hmr, Ne.symm hmr, hia, Exp.row_eq, zan]; (fail_if_success (guard_target =ₛ False)))
  | ((first | refine zag ?_ | refine zaj ?_ | refine zah ?_ | fail); simp [hne, hne2, hmr, Ne.symm hmr, hia, Exp.row_eq, zan])
  | (refine zdi (hC _ (zbn [N, N + 1, N + 2, m, r] nx (by simp <;> omega) (by simp <;> omega) (by apply Exists.intro; apply And.intro; (focus (repeat' (first | exact KF.nil | exact KL.nil | apply KF.cons | apply KL.cons 0 rfl | apply KL.cons 1 rfl | apply KL.cons 2 rfl | apply KL.cons 3 rfl | apply KL.cons 4 rfl | apply KL.cons 5 rfl | apply KL.cons 6 rfl | apply KL.cons 7 rfl | apply KL.cons 8 rfl | apply KL.cons 9 rfl))); kernel_rfl))) rfl; done)
  | (refine zaM rfl (by kernel_rfl) (by first | (simp [hn]; done) | (simp [hn]; omega) | fail) fun C k hC hk => ?_; simp [hne, hne2, hmr, Ne.symm hmr, hia, Exp.row_eq, zan])
  | fail)
  (refine hpan _ _ ⟨{ n := _, env := [], obs := [(N, .box [.ptr m 0]), (N + 1, eOb e), (N + 2, .box [.u (.int .i64 n)]), (m, mOb lets r g), (r, tOb t1)], next := nx }, (Wk.cut rfl (by simp [hn]) (by simp [wkO, zaa, getK, zab, zac, Ob.under, D.under, zad, zae, hm, hr, hne, hne2, hmr, Ne.symm hmr, zan, zab, zac, zaa, getK] <;> (try omega)) (by simp [wkU, zam, zaa, getK, D.under, hm, hr, hne, hne2, hmr, Ne.symm hmr, zan, zab, zac, zaa, getK] <;> (try omega)) (by simp [wkE, zam, zaa, getK, hm, hr, hne, hne2, hmr, Ne.symm hmr, zan, zab, zac, zaa, getK] <;> (try omega))), (by simp [hn] <;> (try omega)), ?_⟩; try simp)
 ·simp only [hvl, zb5] at hv ⊢
  (refine RetX.of_bodyW Tryz.func267 rfl (by simp) fun Γ hn hpan => ?_); simp only [entry, ziC, ziN, maC, maN, oA, Tryz.ntmps267]
  repeat' (first
  | (refine ze3 (fun nx' h' => hv nx' (by simp at h'; omega)) (by first | (simp [hne, hne2, hmr, Ne.symm hmr, hia, Exp.row_eq, zan, zaa, getK, zab, zac, zak, zau, del]; done) | fail) rfl (by first | (simp [hne, hne2, hmr, Ne.symm hmr, hia, Exp.row_eq, zan]; done) | fail) (by rfl) (by first | assumption | (simp; done) | fail) (by rfl) (by first | (simp [hne, hne2, hmr, Ne.symm hmr, hia, Exp.row_eq, zan, D.under, Ob.under, zad, zae]; done) | (simp [hne, hne2, hmr, Ne.symm hmr, hia, Exp.row_eq, zan, D.under, Ob.under, zad, zae]; omega) | fail) (by simp) ?_; (try simp [hne, hne2, hmr, Ne.symm hmr, hia, Exp.row_eq, zan]))
  | ((first | refine zag ?_ | refine zaN rfl ?_ | refine zaj ?_ | refine zah ?_ | fail); simp [hne, hne2, hmr, Ne.symm hmr, hia, Exp.row_eq, zan])
  | (refine za4 (hC _ (zbn [N, N + 1, N + 2, m, r] nx (by simp <;> omega) (by simp <;> omega) (by apply Exists.intro; apply And.intro; (focus (repeat' (first | exact KF.nil | exact KL.nil | apply KF.cons | apply KL.cons 0 rfl | apply KL.cons 1 rfl | apply KL.cons 2 rfl | apply KL.cons 3 rfl | apply KL.cons 4 rfl | apply KL.cons 5 rfl | apply KL.cons 6 rfl | apply KL.cons 7 rfl | apply KL.cons 8 rfl | apply KL.cons 9 rfl))); kernel_rfl))) (hk _ ?_); clear hC hk C k; simp only [zap])
  | (refine zaM rfl (by kernel_rfl) (by first | (simp [hn]; done) | (simp [hn]; omega) | fail) fun C k hC hk => ?_; simp [hne, hne2, hmr, Ne.symm hmr, hia, Exp.row_eq, zan])
  | (refine zar ?_; simp only [zap])
  | fail)
  (refine EndW.here ?_; (first | (refine EndOK.fin (.inr rfl) ?_) | (refine EndOK.fin (.inl rfl) ?_)); simp [zaz, zaf, Tryz.results267, hm, hr, hne, hne2, hmr, Ne.symm hmr, zan]; refine FinOK.cut [(N, .box [.ptr m 0]), (N + 1, eOb e), (N + 2, .box [.u (.int .i64 n)]), (m, mOb lets r g), (r, tOb t1)] (nx) (by simp [zaa, getK, zab, zac, Ob.under, D.under, zad, zae, hm, hr, hne, hne2, hmr, Ne.symm hmr, zan] <;> omega) (by simp [D.under]) (by simp [hn]) ?_; try simp)
theorem zk6 {lets : List Let} {r : Nat} {g : GM} {m n : Nat} {x : Exp} {v : Int} {t1 : Tab} (hV : zdx lets r g m n x) (e : Exp) (ia : Nat) (hia : e.args[ia]? = some x) (hmr : m ≠ r) (N : Nat) (hm : m < N) (hr : r < N) (t : Tab) (nx : Nat) (hN : N + 3 <= nx) (ht : TabOK lets.length t)
  (hv : zbF lets (gF g) n x t = (.ok v, t1)) :
  RetX Tryz.prog 267 [.u (.int .i64 ia), .ptr N 0, .ptr (N + 1) 0, .ptr (N + 2) 0]
   [(r, tOb t), (N, .box [.ptr m 0]), (N + 1, eOb e), (N + 2, .box [.u (.int .i64 n)]), (m, mOb lets r g)] nx
   (fun o obs n' => o = .val (.u (.int .i64 v)) /\ (∀ y, getK obs y = getK [(r, tOb t1), (N, .box [.ptr m 0]), (N + 1, eOb e), (N + 2, .box [.u (.int .i64 n)]), (m, mOb lets r g)] y) /\ n' = nx) := by
 have hne2 := nef hr;have hperm : ∀ (T : Tab) (y : Nat), getK [(N, .box [.ptr m 0]), (N + 1, eOb e), (N + 2, .box [.u (.int .i64 n)]), (m, mOb lets r g), (r, tOb T)] y = getK [(r, tOb T), (N, .box [.ptr m 0]), (N + 1, eOb e), (N + 2, .box [.u (.int .i64 n)]), (m, mOb lets r g)] y := fun T y => by
  simp only [zaa];by_cases h : y = r
  ·subst h;rw [if_neg (by omega), if_neg (by omega), if_neg (by omega), if_neg (Ne.symm hmr)];simp
  ·simp [h]
 have h := zdu hV e ia hia hmr N hm hr t nx hN ht;rw [hv] at h;exact (h.congr fun y => (hperm t y).symm).mono fun o obs n' ⟨h1, h2, h3⟩ => ⟨h1, fun y => by rw [h2]; exact hperm t1 y, h3⟩
end Go.Proofs.YtepiegcjnaohjaaGreatDoor
namespace Go.Proofs.YtepiegcjnaohjaaGreatDoor
open Go Go.VL
attribute [local simp] HS zc6 zb2 evPure opd uOf zaC St.put St.at getK binD binI binS binB nilD aggD zhd zir lookD lookR zcB rangeS Go.VL.nextD Go.VL.nextS zcD ziF ziE zgE zbX mkV za8 zbj zbi zbh zc0 zbc zbq zbC mapEff zdd zf0 Key.kk shiftI arith unD convD zd4 loadD cellsAt fieldAddrD fieldD indexAddrD indexSlD arrAddr indexD sliceD cutD lenD minmaxD nilCheckD buildD fillD zbS zde zeV setAll zcM zeM zcv zhH zcr St.add zaS zbP rowsOf zdS zcw zak zac zaa zbm zcX zaQ entry zbI zbR valD zbU zcx zg2 zdv zdw zbZ zbO zaw zaR zbs delAll effD St.effS zdb zbk za1 zdc zbl za3 zcf za2 zaV zcg zc7 zbJ zcd zbt zcb zcc zau mkD zbw zbD zbN zaw zcu D.ids Op.operands Call.operands zbz makeIfD makeFuncD typeAssertD zio zdI zdJ zhX zcC IntKind.bits zcG List.take_of_length_le List.range_succ
attribute [local irreducible] V G H HD HD2 HD4 zmf RetX zap Eff CallP CallV EndOK Fun Ret FinOK LoopI LoopW EndW
def zpS (lets : List Let) (r : Nat) (g : GM) (m n : Nat) : Prop := ∀ (s : List UInt8) (t : Tab) (nx : Nat), m < nx -> r < nx -> TabOK lets.length t ->
 RetX Tryz.prog 269 [.ptr m 0, .u (.str s), .u (.int .i64 n)] [(m, mOb lets r g), (r, tOb t)] nx
  (fun o obs n' => o = zb5 (nmT lets (gF g) n s t).1 /\ obs = [(m, mOb lets r g), (r, tOb (nmT lets (gF g) n s t).2)] /\ n' = nx)
theorem zmo {lets : List Let} {r : Nat} {g : GM} {m n : Nat} {e : Exp} (hmr : m ≠ r) (h0 : e.op = 0) : zdx lets r g m n e := by
 intro t nx hm hr ht;have hne := nef hm;have hne2 := nef hr;unfold zb7;obtain ⟨T, rfl⟩ : ∃ T, T = t := ⟨_, rfl⟩;rw [zop h0];have hck := fun nx' => zdV e.n nx';cases hk0 : zdz e.n with
 | ok v =>
  simp only [hk0, zb5] at hck ⊢
  (refine RetX.of_bodyW Tryz.func212 rfl (by simp) fun Γ hn hpan => ?_); simp only [entry, ziC, ziN, maC, maN, oA, Tryz.ntmps212]
  repeat' (first
  | ((first | refine zag ?_ | refine zaj ?_ | refine zah ?_ | refine zai ?_ | refine zao ?_ | fail); simp [hne, hne2, hmr, Ne.symm hmr, h0, nAA, del])
  | (refine zar ?_; simp only [zap])
  | (refine CallP.okL (hck _) (by first | (simp [hne, hne2, hmr, Ne.symm hmr, h0, nAA, del, zaa, getK, zab, zac, zak, zau, del]; done) | fail) (by rfl) (by rfl) ?_; (try simp [hne, hne2, hmr, Ne.symm hmr, h0, nAA, del, zbY, del]))
  | fail)
  (refine EndW.here ?_; (first | (refine EndOK.fin (.inr rfl) ?_) | (refine EndOK.fin (.inl rfl) ?_)); simp [zaz, zaf, Tryz.results212, hm, hr, hne, hne2, hmr, Ne.symm hmr, zan, zax]; refine FinOK.cut [(m, mOb lets r g), (r, tOb T)] (nx) (by simp [zaa, getK, zab, zac, Ob.under, D.under, zad, zae, hm, hr, hne, hne2, hmr, Ne.symm hmr, zan, zax] <;> omega) (by simp [D.under]) (by simp [hn]) ?_; try simp)
 | error er =>
  simp only [hk0, zb5] at hck ⊢
  (refine RetX.of_bodyW Tryz.func212 rfl (by simp) fun Γ hn hpan => ?_); simp only [entry, ziC, ziN, maC, maN, oA, Tryz.ntmps212]
  repeat' (first
  | ((first | refine zag ?_ | refine zaj ?_ | refine zah ?_ | refine zai ?_ | refine zao ?_ | fail); simp [hne, hne2, hmr, Ne.symm hmr, h0, nAA, del])
  | (refine CallP.ziD (hck _) (by first | (simp [hne, hne2, hmr, Ne.symm hmr, h0, nAA, del, zaa, getK, zab, zac, zak, zau, del]; done) | fail) (by rfl) (by first | assumption | (simp; done) | fail) (by rfl) (by simp) ?_; refine ⟨_, Wk.refl _, ?_⟩; (try simp [hne, hne2, hmr, Ne.symm hmr, h0, nAA, del, zbY, del]))
  | fail)
  (refine hpan _ _ ⟨{ n := _, env := [], obs := [(m, mOb lets r g), (r, tOb T)], next := nx }, (Wk.cut rfl (by simp [hn]) (by simp [wkO, zaa, getK, zab, zac, Ob.under, D.under, zad, zae, hm, hr, hne, hne2, hmr, Ne.symm hmr, zan, zax, zab, zac, zaa, getK] <;> (try omega)) (by simp [wkU, zam, zaa, getK, D.under, hm, hr, hne, hne2, hmr, Ne.symm hmr, zan, zax, zab, zac, zaa, getK] <;> (try omega)) (by simp [wkE, zam, zaa, getK, hm, hr, hne, hne2, hmr, Ne.symm hmr, zan, zax, zab, zac, zaa, getK] <;> (try omega))), (by simp [hn] <;> (try omega)), ?_⟩; try simp)
theorem zle {lets : List Let} {r : Nat} {g : GM} {m n : Nat} {e : Exp} (hmr : m ≠ r) (h0 : e.op = 1) (hN : zpS lets r g m n) : zdx lets r g m n e := by
 intro t nx hm hr ht;have hne := nef hm;have hne2 := nef hr;unfold zb7;rw [zmv h0];have hck := fun nx' (h : nx <= nx') => hN e.s t nx' (by omega) (by omega) ht;rcases hk0 : nmT lets (gF g) n e.s t with ⟨er | v, T⟩
 ·simp only [hk0, zb5] at hck ⊢
  (refine RetX.of_bodyW Tryz.func212 rfl (by simp) fun Γ hn hpan => ?_); simp only [entry, ziC, ziN, maC, maN, oA, Tryz.ntmps212]
  repeat' (first
  | ((first | refine zag ?_ | refine zaj ?_ | refine zah ?_ | refine zai ?_ | refine zao ?_ | fail); simp [hne, hne2, hmr, Ne.symm hmr, h0, nAA, del])
  | (refine CallP.ziD (hck _ (by first | omega | simp <;> omega | fail)) (by first | (simp [hne, hne2, hmr, Ne.symm hmr, h0, nAA, del, zaa, getK, zab, zac, zak, zau, del]; done) | fail) (by rfl) (by first | assumption | (simp; done) | fail) (by rfl) (by simp) ?_; refine ⟨_, Wk.refl _, ?_⟩; (try simp [hne, hne2, hmr, Ne.symm hmr, h0, nAA, del, zbY, del]))
  | fail)
  (refine hpan _ _ ⟨{ n := _, env := [], obs := [(m, mOb lets r g), (r, tOb T)], next := nx }, (Wk.cut rfl (by simp [hn]) (by simp [wkO, zaa, getK, zab, zac, Ob.under, D.under, zad, zae, hm, hr, hne, hne2, hmr, Ne.symm hmr, zan, zax, zab, zac, zaa, getK] <;> (try omega)) (by simp [wkU, zam, zaa, getK, D.under, hm, hr, hne, hne2, hmr, Ne.symm hmr, zan, zax, zab, zac, zaa, getK] <;> (try omega)) (by simp [wkE, zam, zaa, getK, hm, hr, hne, hne2, hmr, Ne.symm hmr, zan, zax, zab, zac, zaa, getK] <;> (try omega))), (by simp [hn] <;> (try omega)), ?_⟩; try simp)
 ·simp only [hk0, zb5] at hck ⊢
  (refine RetX.of_bodyW Tryz.func212 rfl (by simp) fun Γ hn hpan => ?_); simp only [entry, ziC, ziN, maC, maN, oA, Tryz.ntmps212]
  repeat' (first
  | ((first | refine zag ?_ | refine zaj ?_ | refine zah ?_ | refine zai ?_ | refine zao ?_ | fail); simp [hne, hne2, hmr, Ne.symm hmr, h0, nAA, del])
  | (refine zar ?_; simp only [zap])
  | (refine CallP.okL (hck _ (by first | omega | simp <;> omega | fail)) (by first | (simp [hne, hne2, hmr, Ne.symm hmr, h0, nAA, del, zaa, getK, zab, zac, zak, zau, del]; done) | fail) (by rfl) (by rfl) ?_; (try simp [hne, hne2, hmr, Ne.symm hmr, h0, nAA, del, zbY, del]))
  | fail)
  (refine EndW.here ?_; (first | (refine EndOK.fin (.inr rfl) ?_) | (refine EndOK.fin (.inl rfl) ?_)); simp [zaz, zaf, Tryz.results212, hm, hr, hne, hne2, hmr, Ne.symm hmr, zan, zax]; refine FinOK.cut [(m, mOb lets r g), (r, tOb T)] (nx) (by simp [zaa, getK, zab, zac, Ob.under, D.under, zad, zae, hm, hr, hne, hne2, hmr, Ne.symm hmr, zan, zax] <;> omega) (by simp [D.under]) (by simp [hn]) ?_; try simp)
theorem zms {lets : List Let} {r : Nat} {g : GM} {m n : Nat} {e x y : Exp} (hmr : m ≠ r) (h0 : e.op = 10) (he : e.args = [x, y]) (hVx : zdx lets r g m n x) (hTx : TMok lets.length (zbF lets (gF g) n x)) (hVy : zdx lets r g m n y) (hTy : TMok lets.length (zbF lets (gF g) n y)) : zdx lets r g m n e := by
 intro t nx hm hr ht;have hne := nef hm;have hne2 := nef hr;unfold zb7;have hx := zdu hVx e 0 (by rw [he]; rfl) hmr nx hm hr t;have hxok := hTx t ht;rcases hvx : zbF lets (gF g) n x t with ⟨er | a, t1⟩
 ·obtain ⟨T, rfl⟩ : ∃ T, T = t1 := ⟨_, rfl⟩;rw [ze4 (by omega) (by omega) he hvx];simp only [hvx, zb5] at hx ⊢
  (refine RetX.of_bodyW Tryz.func212 rfl (by simp) fun Γ hn hpan => ?_); simp only [entry, ziC, ziN, maC, maN, oA, Tryz.ntmps212]
  repeat' (first
  | ((first | refine zag ?_ | refine zaj ?_ | refine zah ?_ | refine zai ?_ | refine zao ?_ | fail); simp [hne, hne2, hmr, Ne.symm hmr, h0, nAA, del])
  | (refine CallP.ziD (hx _ (by first | omega | simp <;> omega | fail) ht) (by first | (simp [hne, hne2, hmr, Ne.symm hmr, h0, nAA, del, zaa, getK, zab, zac, zak, zau, del]; done) | fail) (by rfl) (by first | assumption | (simp; done) | fail) (by rfl) (by simp) ?_; refine ⟨_, Wk.refl _, ?_⟩; (try simp [hne, hne2, hmr, Ne.symm hmr, h0, nAA, del, zbY, del]))
  | fail)
  (refine hpan _ _ ⟨{ n := _, env := [], obs := [(m, mOb lets r g), (r, tOb T)], next := nx }, (Wk.cut rfl (by simp [hn]) (by simp [wkO, zaa, getK, zab, zac, Ob.under, D.under, zad, zae, hm, hr, hne, hne2, hmr, Ne.symm hmr, zan, zax, zab, zac, zaa, getK] <;> (try omega)) (by simp [wkU, zam, zaa, getK, D.under, hm, hr, hne, hne2, hmr, Ne.symm hmr, zan, zax, zab, zac, zaa, getK] <;> (try omega)) (by simp [wkE, zam, zaa, getK, hm, hr, hne, hne2, hmr, Ne.symm hmr, zan, zax, zab, zac, zaa, getK] <;> (try omega))), (by simp [hn] <;> (try omega)), ?_⟩; try simp)
 ·rw [hvx] at hxok;simp only [hvx, zb5] at hx;have hxok1 := hxok.1;simp only at hxok1;have hy := zdu hVy e 1 (by rw [he]; rfl) hmr nx hm hr t1;have hyok := hTy t1 hxok1;by_cases ha : a = 0
  ·subst ha;rw [zmy h0 he hvx];simp only [zb5];obtain ⟨T, rfl⟩ : ∃ T, T = t1 := ⟨_, rfl⟩;have htr := zcV false;simp only [zcH, Bool.false_eq_true, if_false] at htr
   (refine RetX.of_bodyW Tryz.func212 rfl (by simp) fun Γ hn hpan => ?_); simp only [entry, ziC, ziN, maC, maN, oA, Tryz.ntmps212]
   repeat' (first
  | ((first | refine zag ?_ | refine zaj ?_ | refine zah ?_ | refine zai ?_ | refine zao ?_ | fail); simp [hne, hne2, hmr, Ne.symm hmr, h0, nAA, del])
  | (refine zar ?_; simp only [zap])
  | (refine CallP.fE (htr) (by first | rfl | fail) (by first | simp [hne, hne2, hmr, Ne.symm hmr, h0, nAA, del] <;> rfl | fail) ?_; (try simp [hne, hne2, hmr, Ne.symm hmr, h0, nAA, del]))
  | (refine CallP.okL (hx _ (by first | omega | simp <;> omega | fail) ht) (by first | (simp [hne, hne2, hmr, Ne.symm hmr, h0, nAA, del, zaa, getK, zab, zac, zak, zau, del]; done) | fail) (by rfl) (by rfl) ?_; (try simp [hne, hne2, hmr, Ne.symm hmr, h0, nAA, del, zbY, del]))
  | fail)
   (refine EndW.here ?_; (first | (refine EndOK.fin (.inr rfl) ?_) | (refine EndOK.fin (.inl rfl) ?_)); simp [zaz, zaf, Tryz.results212, hm, hr, hne, hne2, hmr, Ne.symm hmr, zan, zax]; refine FinOK.cut [(m, mOb lets r g), (r, tOb T)] (nx) (by simp [zaa, getK, zab, zac, Ob.under, D.under, zad, zae, hm, hr, hne, hne2, hmr, Ne.symm hmr, zan, zax] <;> omega) (by simp [D.under]) (by simp [hn]) ?_; try simp)
  ·skip
   rcases hvy : zbF lets (gF g) n y t1 with ⟨er | b, T⟩
   ·rw [zmx h0 he hvx ha hvy];simp only [hvy, zb5] at hy ⊢
    (refine RetX.of_bodyW Tryz.func212 rfl (by simp) fun Γ hn hpan => ?_); simp only [entry, ziC, ziN, maC, maN, oA, Tryz.ntmps212]
    repeat' (first
  | ((first | refine zag ?_ | refine zaj ?_ | refine zah ?_ | refine zai ?_ | refine zao ?_ | fail); simp [hne, hne2, hmr, Ne.symm hmr, h0, nAA, del, ha])
  | (refine CallP.okL (hx _ (by first | omega | simp <;> omega | fail) ht) (by first | (simp [hne, hne2, hmr, Ne.symm hmr, h0, nAA, del, ha, zaa, getK, zab, zac, zak, zau, del]; done) | fail) (by rfl) (by rfl) ?_; (try simp [hne, hne2, hmr, Ne.symm hmr, h0, nAA, del, ha, zbY, del]))
  | (refine CallP.ziD (hy _ (by first | omega | simp <;> omega | fail) hxok1) (by first | (simp [hne, hne2, hmr, Ne.symm hmr, h0, nAA, del, ha, zaa, getK, zab, zac, zak, zau, del]; done) | fail) (by rfl) (by first | assumption | (simp; done) | fail) (by rfl) (by simp) ?_; refine ⟨_, Wk.refl _, ?_⟩; (try simp [hne, hne2, hmr, Ne.symm hmr, h0, nAA, del, ha, zbY, del]))
  | fail)
    (refine hpan _ _ ⟨{ n := _, env := [], obs := [(m, mOb lets r g), (r, tOb T)], next := nx }, (Wk.cut rfl (by simp [hn]) (by simp [wkO, zaa, getK, zab, zac, Ob.under, D.under, zad, zae, hm, hr, hne, hne2, hmr, Ne.symm hmr, zan, zax, zab, zac, zaa, getK] <;> (try omega)) (by simp [wkU, zam, zaa, getK, D.under, hm, hr, hne, hne2, hmr, Ne.symm hmr, zan, zax, zab, zac, zaa, getK] <;> (try omega)) (by simp [wkE, zam, zaa, getK, hm, hr, hne, hne2, hmr, Ne.symm hmr, zan, zax, zab, zac, zaa, getK] <;> (try omega))), (by simp [hn] <;> (try omega)), ?_⟩; try simp)
   ·rw [zou h0 he hvx ha hvy];simp only [hvy, zb5] at hy ⊢;have htr := zcV (decide (b ≠ 0));by_cases hb : b = 0
    ·simp only [hb, ne_eq, not_true_eq_false, decide_false] at htr hy ⊢
     (refine RetX.of_bodyW Tryz.func212 rfl (by simp) fun Γ hn hpan => ?_); simp only [entry, ziC, ziN, maC, maN, oA, Tryz.ntmps212]
     repeat' (first
  | ((first | refine zag ?_ | refine zaj ?_ | refine zah ?_ | refine zai ?_ | refine zao ?_ | fail); simp [hne, hne2, hmr, Ne.symm hmr, h0, nAA, del, ha, hb])
  | (refine zar ?_; simp only [zap])
  | (refine CallP.fE (htr) (by first | rfl | fail) (by first | simp [hne, hne2, hmr, Ne.symm hmr, h0, nAA, del, ha, hb] <;> rfl | fail) ?_; (try simp [hne, hne2, hmr, Ne.symm hmr, h0, nAA, del, ha, hb]))
  | (refine CallP.okL (hx _ (by first | omega | simp <;> omega | fail) ht) (by first | (simp [hne, hne2, hmr, Ne.symm hmr, h0, nAA, del, ha, hb, zaa, getK, zab, zac, zak, zau, del]; done) | fail) (by rfl) (by rfl) ?_; (try simp [hne, hne2, hmr, Ne.symm hmr, h0, nAA, del, ha, hb, zbY, del]))
  | (refine CallP.okL (hy _ (by first | omega | simp <;> omega | fail) hxok1) (by first | (simp [hne, hne2, hmr, Ne.symm hmr, h0, nAA, del, ha, hb, zaa, getK, zab, zac, zak, zau, del]; done) | fail) (by rfl) (by rfl) ?_; (try simp [hne, hne2, hmr, Ne.symm hmr, h0, nAA, del, ha, hb, zbY, del]))
  | fail)
     (refine EndW.here ?_; (first | (refine EndOK.fin (.inr rfl) ?_) | (refine EndOK.fin (.inl rfl) ?_)); simp [zaz, zaf, Tryz.results212, hm, hr, hne, hne2, hmr, Ne.symm hmr, zan, zax]; refine FinOK.cut [(m, mOb lets r g), (r, tOb T)] (nx) (by simp [zaa, getK, zab, zac, Ob.under, D.under, zad, zae, hm, hr, hne, hne2, hmr, Ne.symm hmr, zan, zax] <;> omega) (by simp [D.under]) (by simp [hn]) ?_; try simp)
    ·simp only [hb, ne_eq, not_false_eq_true, decide_true] at htr ⊢
     (refine RetX.of_bodyW Tryz.func212 rfl (by simp) fun Γ hn hpan => ?_); simp only [entry, ziC, ziN, maC, maN, oA, Tryz.ntmps212]
     repeat' (first
  | ((first | refine zag ?_ | refine zaj ?_ | refine zah ?_ | refine zai ?_ | refine zao ?_ | fail); simp [hne, hne2, hmr, Ne.symm hmr, h0, nAA, del, ha, hb])
  | (refine zar ?_; simp only [zap])
  | (refine CallP.fE (htr) (by first | rfl | fail) (by first | simp [hne, hne2, hmr, Ne.symm hmr, h0, nAA, del, ha, hb] <;> rfl | fail) ?_; (try simp [hne, hne2, hmr, Ne.symm hmr, h0, nAA, del, ha, hb]))
  | (refine CallP.okL (hx _ (by first | omega | simp <;> omega | fail) ht) (by first | (simp [hne, hne2, hmr, Ne.symm hmr, h0, nAA, del, ha, hb, zaa, getK, zab, zac, zak, zau, del]; done) | fail) (by rfl) (by rfl) ?_; (try simp [hne, hne2, hmr, Ne.symm hmr, h0, nAA, del, ha, hb, zbY, del]))
  | (refine CallP.okL (hy _ (by first | omega | simp <;> omega | fail) hxok1) (by first | (simp [hne, hne2, hmr, Ne.symm hmr, h0, nAA, del, ha, hb, zaa, getK, zab, zac, zak, zau, del]; done) | fail) (by rfl) (by rfl) ?_; (try simp [hne, hne2, hmr, Ne.symm hmr, h0, nAA, del, ha, hb, zbY, del]))
  | fail)
     (refine EndW.here ?_; (first | (refine EndOK.fin (.inr rfl) ?_) | (refine EndOK.fin (.inl rfl) ?_)); simp [zaz, zaf, Tryz.results212, hm, hr, hne, hne2, hmr, Ne.symm hmr, zan, zax]; refine FinOK.cut [(m, mOb lets r g), (r, tOb T)] (nx) (by simp [zaa, getK, zab, zac, Ob.under, D.under, zad, zae, hm, hr, hne, hne2, hmr, Ne.symm hmr, zan, zax] <;> omega) (by simp [D.under]) (by simp [hn]) ?_; try simp)
theorem zok {lets : List Let} {r : Nat} {g : GM} {m n : Nat} {e x y : Exp} (hmr : m ≠ r) (h0 : e.op = 11) (he : e.args = [x, y]) (hVx : zdx lets r g m n x) (hTx : TMok lets.length (zbF lets (gF g) n x)) (hVy : zdx lets r g m n y) (hTy : TMok lets.length (zbF lets (gF g) n y)) : zdx lets r g m n e := by
 intro t nx hm hr ht;have hne := nef hm;have hne2 := nef hr;unfold zb7;have hx := zdu hVx e 0 (by rw [he]; rfl) hmr nx hm hr t;have hxok := hTx t ht;rcases hvx : zbF lets (gF g) n x t with ⟨er | a, t1⟩
 ·obtain ⟨T, rfl⟩ : ∃ T, T = t1 := ⟨_, rfl⟩;rw [ze4 (by omega) (by omega) he hvx];simp only [hvx, zb5] at hx ⊢
  (refine RetX.of_bodyW Tryz.func212 rfl (by simp) fun Γ hn hpan => ?_); simp only [entry, ziC, ziN, maC, maN, oA, Tryz.ntmps212]
  repeat' (first
  | ((first | refine zag ?_ | refine zaj ?_ | refine zah ?_ | refine zai ?_ | refine zao ?_ | fail); simp [hne, hne2, hmr, Ne.symm hmr, h0, nAA, del])
  | (refine CallP.ziD (hx _ (by first | omega | simp <;> omega | fail) ht) (by first | (simp [hne, hne2, hmr, Ne.symm hmr, h0, nAA, del, zaa, getK, zab, zac, zak, zau, del]; done) | fail) (by rfl) (by first | assumption | (simp; done) | fail) (by rfl) (by simp) ?_; refine ⟨_, Wk.refl _, ?_⟩; (try simp [hne, hne2, hmr, Ne.symm hmr, h0, nAA, del, zbY, del]))
  | fail)
  (refine hpan _ _ ⟨{ n := _, env := [], obs := [(m, mOb lets r g), (r, tOb T)], next := nx }, (Wk.cut rfl (by simp [hn]) (by simp [wkO, zaa, getK, zab, zac, Ob.under, D.under, zad, zae, hm, hr, hne, hne2, hmr, Ne.symm hmr, zan, zax, zab, zac, zaa, getK] <;> (try omega)) (by simp [wkU, zam, zaa, getK, D.under, hm, hr, hne, hne2, hmr, Ne.symm hmr, zan, zax, zab, zac, zaa, getK] <;> (try omega)) (by simp [wkE, zam, zaa, getK, hm, hr, hne, hne2, hmr, Ne.symm hmr, zan, zax, zab, zac, zaa, getK] <;> (try omega))), (by simp [hn] <;> (try omega)), ?_⟩; try simp)
 ·rw [hvx] at hxok;simp only [hvx, zb5] at hx;have hxok1 := hxok.1;simp only at hxok1;have hy := zdu hVy e 1 (by rw [he]; rfl) hmr nx hm hr t1;have hyok := hTy t1 hxok1;by_cases ha : a = 0
  ·subst ha;rcases hvy : zbF lets (gF g) n y t1 with ⟨er | b, T⟩
   ·rw [zon h0 he hvx hvy];simp only [hvy, zb5] at hy ⊢
    (refine RetX.of_bodyW Tryz.func212 rfl (by simp) fun Γ hn hpan => ?_); simp only [entry, ziC, ziN, maC, maN, oA, Tryz.ntmps212]
    repeat' (first
  | ((first | refine zag ?_ | refine zaj ?_ | refine zah ?_ | refine zai ?_ | refine zao ?_ | fail); simp [hne, hne2, hmr, Ne.symm hmr, h0, nAA, del])
  | (refine CallP.okL (hx _ (by first | omega | simp <;> omega | fail) ht) (by first | (simp [hne, hne2, hmr, Ne.symm hmr, h0, nAA, del, zaa, getK, zab, zac, zak, zau, del]; done) | fail) (by rfl) (by rfl) ?_; (try simp [hne, hne2, hmr, Ne.symm hmr, h0, nAA, del, zbY, del]))
  | (refine CallP.ziD (hy _ (by first | omega | simp <;> omega | fail) hxok1) (by first | (simp [hne, hne2, hmr, Ne.symm hmr, h0, nAA, del, zaa, getK, zab, zac, zak, zau, del]; done) | fail) (by rfl) (by first | assumption | (simp; done) | fail) (by rfl) (by simp) ?_; refine ⟨_, Wk.refl _, ?_⟩; (try simp [hne, hne2, hmr, Ne.symm hmr, h0, nAA, del, zbY, del]))
  | fail)
    (refine hpan _ _ ⟨{ n := _, env := [], obs := [(m, mOb lets r g), (r, tOb T)], next := nx }, (Wk.cut rfl (by simp [hn]) (by simp [wkO, zaa, getK, zab, zac, Ob.under, D.under, zad, zae, hm, hr, hne, hne2, hmr, Ne.symm hmr, zan, zax, zab, zac, zaa, getK] <;> (try omega)) (by simp [wkU, zam, zaa, getK, D.under, hm, hr, hne, hne2, hmr, Ne.symm hmr, zan, zax, zab, zac, zaa, getK] <;> (try omega)) (by simp [wkE, zam, zaa, getK, hm, hr, hne, hne2, hmr, Ne.symm hmr, zan, zax, zab, zac, zaa, getK] <;> (try omega))), (by simp [hn] <;> (try omega)), ?_⟩; try simp)
   ·rw [zpX h0 he hvx hvy];simp only [hvy, zb5] at hy ⊢;have htr := zcV (decide (b ≠ 0));by_cases hb : b = 0
    ·simp only [hb, ne_eq, not_true_eq_false, decide_false] at htr hy ⊢
     (refine RetX.of_bodyW Tryz.func212 rfl (by simp) fun Γ hn hpan => ?_); simp only [entry, ziC, ziN, maC, maN, oA, Tryz.ntmps212]
     repeat' (first
  | ((first | refine zag ?_ | refine zaj ?_ | refine zah ?_ | refine zai ?_ | refine zao ?_ | fail); simp [hne, hne2, hmr, Ne.symm hmr, h0, nAA, del, hb])
  | (refine zar ?_; simp only [zap])
  | (refine CallP.fE (htr) (by first | rfl | fail) (by first | simp [hne, hne2, hmr, Ne.symm hmr, h0, nAA, del, hb] <;> rfl | fail) ?_; (try simp [hne, hne2, hmr, Ne.symm hmr, h0, nAA, del, hb]))
  | (refine CallP.okL (hx _ (by first | omega | simp <;> omega | fail) ht) (by first | (simp [hne, hne2, hmr, Ne.symm hmr, h0, nAA, del, hb, zaa, getK, zab, zac, zak, zau, del]; done) | fail) (by rfl) (by rfl) ?_; (try simp [hne, hne2, hmr, Ne.symm hmr, h0, nAA, del, hb, zbY, del]))
  | (refine CallP.okL (hy _ (by first | omega | simp <;> omega | fail) hxok1) (by first | (simp [hne, hne2, hmr, Ne.symm hmr, h0, nAA, del, hb, zaa, getK, zab, zac, zak, zau, del]; done) | fail) (by rfl) (by rfl) ?_; (try simp [hne, hne2, hmr, Ne.symm hmr, h0, nAA, del, hb, zbY, del]))
  | fail)
     (refine EndW.here ?_; (first | (refine EndOK.fin (.inr rfl) ?_) | (refine EndOK.fin (.inl rfl) ?_)); simp [zaz, zaf, Tryz.results212, hm, hr, hne, hne2, hmr, Ne.symm hmr, zan, zax]; refine FinOK.cut [(m, mOb lets r g), (r, tOb T)] (nx) (by simp [zaa, getK, zab, zac, Ob.under, D.under, zad, zae, hm, hr, hne, hne2, hmr, Ne.symm hmr, zan, zax] <;> omega) (by simp [D.under]) (by simp [hn]) ?_; try simp)
    ·simp only [hb, ne_eq, not_false_eq_true, decide_true] at htr ⊢
     (refine RetX.of_bodyW Tryz.func212 rfl (by simp) fun Γ hn hpan => ?_); simp only [entry, ziC, ziN, maC, maN, oA, Tryz.ntmps212]
     repeat' (first
  | ((first | refine zag ?_ | refine zaj ?_ | refine zah ?_ | refine zai ?_ | refine zao ?_ | fail); simp [hne, hne2, hmr, Ne.symm hmr, h0, nAA, del, hb])
  | (refine zar ?_; simp only [zap])
  | (refine CallP.fE (htr) (by first | rfl | fail) (by first | simp [hne, hne2, hmr, Ne.symm hmr, h0, nAA, del, hb] <;> rfl | fail) ?_; (try simp [hne, hne2, hmr, Ne.symm hmr, h0, nAA, del, hb]))
  | (refine CallP.okL (hx _ (by first | omega | simp <;> omega | fail) ht) (by first | (simp [hne, hne2, hmr, Ne.symm hmr, h0, nAA, del, hb, zaa, getK, zab, zac, zak, zau, del]; done) | fail) (by rfl) (by rfl) ?_; (try simp [hne, hne2, hmr, Ne.symm hmr, h0, nAA, del, hb, zbY, del]))
  | (refine CallP.okL (hy _ (by first | omega | simp <;> omega | fail) hxok1) (by first | (simp [hne, hne2, hmr, Ne.symm hmr, h0, nAA, del, hb, zaa, getK, zab, zac, zak, zau, del]; done) | fail) (by rfl) (by rfl) ?_; (try simp [hne, hne2, hmr, Ne.symm hmr, h0, nAA, del, hb, zbY, del]))
  | fail)
     (refine EndW.here ?_; (first | (refine EndOK.fin (.inr rfl) ?_) | (refine EndOK.fin (.inl rfl) ?_)); simp [zaz, zaf, Tryz.results212, hm, hr, hne, hne2, hmr, Ne.symm hmr, zan, zax]; refine FinOK.cut [(m, mOb lets r g), (r, tOb T)] (nx) (by simp [zaa, getK, zab, zac, Ob.under, D.under, zad, zae, hm, hr, hne, hne2, hmr, Ne.symm hmr, zan, zax] <;> omega) (by simp [D.under]) (by simp [hn]) ?_; try simp)
  ·skip
   rw [zoo h0 he hvx ha];simp only [zb5];obtain ⟨T, rfl⟩ : ∃ T, T = t1 := ⟨_, rfl⟩;have htr := zcV true;simp only [zcH, if_true] at htr
   (refine RetX.of_bodyW Tryz.func212 rfl (by simp) fun Γ hn hpan => ?_); simp only [entry, ziC, ziN, maC, maN, oA, Tryz.ntmps212]
   repeat' (first
  | ((first | refine zag ?_ | refine zaj ?_ | refine zah ?_ | refine zai ?_ | refine zao ?_ | fail); simp [hne, hne2, hmr, Ne.symm hmr, h0, nAA, del, ha])
  | (refine zar ?_; simp only [zap])
  | (refine CallP.fE (htr) (by first | rfl | fail) (by first | simp [hne, hne2, hmr, Ne.symm hmr, h0, nAA, del, ha] <;> rfl | fail) ?_; (try simp [hne, hne2, hmr, Ne.symm hmr, h0, nAA, del, ha]))
  | (refine CallP.okL (hx _ (by first | omega | simp <;> omega | fail) ht) (by first | (simp [hne, hne2, hmr, Ne.symm hmr, h0, nAA, del, ha, zaa, getK, zab, zac, zak, zau, del]; done) | fail) (by rfl) (by rfl) ?_; (try simp [hne, hne2, hmr, Ne.symm hmr, h0, nAA, del, ha, zbY, del]))
  | fail)
   (refine EndW.here ?_; (first | (refine EndOK.fin (.inr rfl) ?_) | (refine EndOK.fin (.inl rfl) ?_)); simp [zaz, zaf, Tryz.results212, hm, hr, hne, hne2, hmr, Ne.symm hmr, zan, zax]; refine FinOK.cut [(m, mOb lets r g), (r, tOb T)] (nx) (by simp [zaa, getK, zab, zac, Ob.under, D.under, zad, zae, hm, hr, hne, hne2, hmr, Ne.symm hmr, zan, zax] <;> omega) (by simp [D.under]) (by simp [hn]) ?_; try simp)
theorem zmp {lets : List Let} {r : Nat} {g : GM} {m n : Nat} {e x : Exp} (hmr : m ≠ r) (h0 : e.op = 12) (he : e.args = [x]) (hVx : zdx lets r g m n x) (hTx : TMok lets.length (zbF lets (gF g) n x)) : zdx lets r g m n e := by
 intro t nx hm hr ht;have hne := nef hm;have hne2 := nef hr;unfold zb7;have hx := zdu hVx e 0 (by rw [he]; rfl) hmr nx hm hr t;have hxok := hTx t ht;rcases hvx : zbF lets (gF g) n x t with ⟨er | a, t1⟩
 ·obtain ⟨T, rfl⟩ : ∃ T, T = t1 := ⟨_, rfl⟩;rw [ze4 (by omega) (by omega) he hvx];simp only [hvx, zb5] at hx ⊢
  (refine RetX.of_bodyW Tryz.func212 rfl (by simp) fun Γ hn hpan => ?_); simp only [entry, ziC, ziN, maC, maN, oA, Tryz.ntmps212]
  repeat' (first
  | ((first | refine zag ?_ | refine zaj ?_ | refine zah ?_ | refine zai ?_ | refine zao ?_ | fail); simp [hne, hne2, hmr, Ne.symm hmr, h0, nAA, del])
  | (refine CallP.ziD (hx _ (by first | omega | simp <;> omega | fail) ht) (by first | (simp [hne, hne2, hmr, Ne.symm hmr, h0, nAA, del, zaa, getK, zab, zac, zak, zau, del]; done) | fail) (by rfl) (by first | assumption | (simp; done) | fail) (by rfl) (by simp) ?_; refine ⟨_, Wk.refl _, ?_⟩; (try simp [hne, hne2, hmr, Ne.symm hmr, h0, nAA, del, zbY, del]))
  | fail)
  (refine hpan _ _ ⟨{ n := _, env := [], obs := [(m, mOb lets r g), (r, tOb T)], next := nx }, (Wk.cut rfl (by simp [hn]) (by simp [wkO, zaa, getK, zab, zac, Ob.under, D.under, zad, zae, hm, hr, hne, hne2, hmr, Ne.symm hmr, zan, zax, zab, zac, zaa, getK] <;> (try omega)) (by simp [wkU, zam, zaa, getK, D.under, hm, hr, hne, hne2, hmr, Ne.symm hmr, zan, zax, zab, zac, zaa, getK] <;> (try omega)) (by simp [wkE, zam, zaa, getK, hm, hr, hne, hne2, hmr, Ne.symm hmr, zan, zax, zab, zac, zaa, getK] <;> (try omega))), (by simp [hn] <;> (try omega)), ?_⟩; try simp)
 ·obtain ⟨T, rfl⟩ : ∃ T, T = t1 := ⟨_, rfl⟩;rw [zoq h0 he hvx];simp only [hvx, zb5] at hx ⊢;have htr := zcV (decide (a = 0));by_cases ha : a = 0
  ·simp only [ha, decide_true] at htr hx ⊢
   (refine RetX.of_bodyW Tryz.func212 rfl (by simp) fun Γ hn hpan => ?_); simp only [entry, ziC, ziN, maC, maN, oA, Tryz.ntmps212]
   repeat' (first
  | ((first | refine zag ?_ | refine zaj ?_ | refine zah ?_ | refine zai ?_ | refine zao ?_ | fail); simp [hne, hne2, hmr, Ne.symm hmr, h0, nAA, del])
  | (refine zar ?_; simp only [zap])
  | (refine CallP.fE (htr) (by first | rfl | fail) (by first | simp [hne, hne2, hmr, Ne.symm hmr, h0, nAA, del] <;> rfl | fail) ?_; (try simp [hne, hne2, hmr, Ne.symm hmr, h0, nAA, del]))
  | (refine CallP.okL (hx _ (by first | omega | simp <;> omega | fail) ht) (by first | (simp [hne, hne2, hmr, Ne.symm hmr, h0, nAA, del, zaa, getK, zab, zac, zak, zau, del]; done) | fail) (by rfl) (by rfl) ?_; (try simp [hne, hne2, hmr, Ne.symm hmr, h0, nAA, del, zbY, del]))
  | fail)
   (refine EndW.here ?_; (first | (refine EndOK.fin (.inr rfl) ?_) | (refine EndOK.fin (.inl rfl) ?_)); simp [zaz, zaf, Tryz.results212, hm, hr, hne, hne2, hmr, Ne.symm hmr, zan, zax]; refine FinOK.cut [(m, mOb lets r g), (r, tOb T)] (nx) (by simp [zaa, getK, zab, zac, Ob.under, D.under, zad, zae, hm, hr, hne, hne2, hmr, Ne.symm hmr, zan, zax] <;> omega) (by simp [D.under]) (by simp [hn]) ?_; try simp)
  ·simp only [ha, decide_false] at htr ⊢
   (refine RetX.of_bodyW Tryz.func212 rfl (by simp) fun Γ hn hpan => ?_); simp only [entry, ziC, ziN, maC, maN, oA, Tryz.ntmps212]
   repeat' (first
  | ((first | refine zag ?_ | refine zaj ?_ | refine zah ?_ | refine zai ?_ | refine zao ?_ | fail); simp [hne, hne2, hmr, Ne.symm hmr, h0, nAA, del, ha])
  | (refine zar ?_; simp only [zap])
  | (refine CallP.fE (htr) (by first | rfl | fail) (by first | simp [hne, hne2, hmr, Ne.symm hmr, h0, nAA, del, ha] <;> rfl | fail) ?_; (try simp [hne, hne2, hmr, Ne.symm hmr, h0, nAA, del, ha]))
  | (refine CallP.okL (hx _ (by first | omega | simp <;> omega | fail) ht) (by first | (simp [hne, hne2, hmr, Ne.symm hmr, h0, nAA, del, ha, zaa, getK, zab, zac, zak, zau, del]; done) | fail) (by rfl) (by rfl) ?_; (try simp [hne, hne2, hmr, Ne.symm hmr, h0, nAA, del, ha, zbY, del]))
  | fail)
   (refine EndW.here ?_; (first | (refine EndOK.fin (.inr rfl) ?_) | (refine EndOK.fin (.inl rfl) ?_)); simp [zaz, zaf, Tryz.results212, hm, hr, hne, hne2, hmr, Ne.symm hmr, zan, zax]; refine FinOK.cut [(m, mOb lets r g), (r, tOb T)] (nx) (by simp [zaa, getK, zab, zac, Ob.under, D.under, zad, zae, hm, hr, hne, hne2, hmr, Ne.symm hmr, zan, zax] <;> omega) (by simp [D.under]) (by simp [hn]) ?_; try simp)
theorem zol {lets : List Let} {r : Nat} {g : GM} {m n : Nat} {e x y z : Exp} (hmr : m ≠ r) (h0 : e.op = 13) (he : e.args = [x, y, z]) (hVx : zdx lets r g m n x) (hTx : TMok lets.length (zbF lets (gF g) n x)) (hVy : zdx lets r g m n y) (hTy : TMok lets.length (zbF lets (gF g) n y)) (hVz : zdx lets r g m n z) (hTz : TMok lets.length (zbF lets (gF g) n z)) : zdx lets r g m n e := by
 intro t nx hm hr ht;have hne := nef hm;have hne2 := nef hr;unfold zb7;have hx := zdu hVx e 0 (by rw [he]; rfl) hmr nx hm hr t;have hxok := hTx t ht;rcases hvx : zbF lets (gF g) n x t with ⟨er | a, t1⟩
 ·obtain ⟨T, rfl⟩ : ∃ T, T = t1 := ⟨_, rfl⟩;rw [ze4 (by omega) (by omega) he hvx];simp only [hvx, zb5] at hx ⊢
  (refine RetX.of_bodyW Tryz.func212 rfl (by simp) fun Γ hn hpan => ?_); simp only [entry, ziC, ziN, maC, maN, oA, Tryz.ntmps212]
  repeat' (first
  | ((first | refine zag ?_ | refine zaj ?_ | refine zah ?_ | refine zai ?_ | refine zao ?_ | fail); simp [hne, hne2, hmr, Ne.symm hmr, h0, nAA, del])
  | (refine CallP.ziD (hx _ (by first | omega | simp <;> omega | fail) ht) (by first | (simp [hne, hne2, hmr, Ne.symm hmr, h0, nAA, del, zaa, getK, zab, zac, zak, zau, del]; done) | fail) (by rfl) (by first | assumption | (simp; done) | fail) (by rfl) (by simp) ?_; refine ⟨_, Wk.refl _, ?_⟩; (try simp [hne, hne2, hmr, Ne.symm hmr, h0, nAA, del, zbY, del]))
  | fail)
  (refine hpan _ _ ⟨{ n := _, env := [], obs := [(m, mOb lets r g), (r, tOb T)], next := nx }, (Wk.cut rfl (by simp [hn]) (by simp [wkO, zaa, getK, zab, zac, Ob.under, D.under, zad, zae, hm, hr, hne, hne2, hmr, Ne.symm hmr, zan, zax, zab, zac, zaa, getK] <;> (try omega)) (by simp [wkU, zam, zaa, getK, D.under, hm, hr, hne, hne2, hmr, Ne.symm hmr, zan, zax, zab, zac, zaa, getK] <;> (try omega)) (by simp [wkE, zam, zaa, getK, hm, hr, hne, hne2, hmr, Ne.symm hmr, zan, zax, zab, zac, zaa, getK] <;> (try omega))), (by simp [hn] <;> (try omega)), ?_⟩; try simp)
 ·rw [hvx] at hxok;simp only [hvx, zb5] at hx;have hxok1 := hxok.1;simp only at hxok1;have hy := zdu hVy e 1 (by rw [he]; rfl) hmr nx hm hr t1;have hyok := hTy t1 hxok1;have hz := zdu hVz e 2 (by rw [he]; rfl) hmr nx hm hr t1;by_cases ha : a = 0
  ·subst ha;rw [zos h0 he hvx];rcases hvz : zbF lets (gF g) n z t1 with ⟨er | b, T⟩
   ·simp only [hvz, zb5] at hz ⊢
    (refine RetX.of_bodyW Tryz.func212 rfl (by simp) fun Γ hn hpan => ?_); simp only [entry, ziC, ziN, maC, maN, oA, Tryz.ntmps212]
    repeat' (first
  | ((first | refine zag ?_ | refine zaj ?_ | refine zah ?_ | refine zai ?_ | refine zao ?_ | fail); simp [hne, hne2, hmr, Ne.symm hmr, h0, nAA, del])
  | (refine zaq ?_; simp only [zap])
  | (refine CallP.okL (hx _ (by first | omega | simp <;> omega | fail) ht) (by first | (simp [hne, hne2, hmr, Ne.symm hmr, h0, nAA, del, zaa, getK, zab, zac, zak, zau, del]; done) | fail) (by rfl) (by rfl) ?_; (try simp [hne, hne2, hmr, Ne.symm hmr, h0, nAA, del, zbY, del]))
  | (refine CallP.ziD (hz _ (by first | omega | simp <;> omega | fail) hxok1) (by first | (simp [hne, hne2, hmr, Ne.symm hmr, h0, nAA, del, zaa, getK, zab, zac, zak, zau, del]; done) | fail) (by rfl) (by first | assumption | (simp; done) | fail) (by rfl) (by simp) ?_; refine ⟨_, Wk.refl _, ?_⟩; (try simp [hne, hne2, hmr, Ne.symm hmr, h0, nAA, del, zbY, del]))
  | fail)
    (refine hpan _ _ ⟨{ n := _, env := [], obs := [(m, mOb lets r g), (r, tOb T)], next := nx }, (Wk.cut rfl (by simp [hn]) (by simp [wkO, zaa, getK, zab, zac, Ob.under, D.under, zad, zae, hm, hr, hne, hne2, hmr, Ne.symm hmr, zan, zax, zab, zac, zaa, getK] <;> (try omega)) (by simp [wkU, zam, zaa, getK, D.under, hm, hr, hne, hne2, hmr, Ne.symm hmr, zan, zax, zab, zac, zaa, getK] <;> (try omega)) (by simp [wkE, zam, zaa, getK, hm, hr, hne, hne2, hmr, Ne.symm hmr, zan, zax, zab, zac, zaa, getK] <;> (try omega))), (by simp [hn] <;> (try omega)), ?_⟩; try simp)
   ·simp only [hvz, zb5] at hz ⊢
    (refine RetX.of_bodyW Tryz.func212 rfl (by simp) fun Γ hn hpan => ?_); simp only [entry, ziC, ziN, maC, maN, oA, Tryz.ntmps212]
    repeat' (first
  | ((first | refine zag ?_ | refine zaj ?_ | refine zah ?_ | refine zai ?_ | refine zao ?_ | fail); simp [hne, hne2, hmr, Ne.symm hmr, h0, nAA, del])
  | ((first | refine zar ?_ | refine zaq ?_ | fail); simp only [zap])
  | (refine CallP.okL (hx _ (by first | omega | simp <;> omega | fail) ht) (by first | (simp [hne, hne2, hmr, Ne.symm hmr, h0, nAA, del, zaa, getK, zab, zac, zak, zau, del]; done) | fail) (by rfl) (by rfl) ?_; (try simp [hne, hne2, hmr, Ne.symm hmr, h0, nAA, del, zbY, del]))
  | (refine CallP.okL (hz _ (by first | omega | simp <;> omega | fail) hxok1) (by first | (simp [hne, hne2, hmr, Ne.symm hmr, h0, nAA, del, zaa, getK, zab, zac, zak, zau, del]; done) | fail) (by rfl) (by rfl) ?_; (try simp [hne, hne2, hmr, Ne.symm hmr, h0, nAA, del, zbY, del]))
  | fail)
    (refine EndW.here ?_; (first | (refine EndOK.fin (.inr rfl) ?_) | (refine EndOK.fin (.inl rfl) ?_)); simp [zaz, zaf, Tryz.results212, hm, hr, hne, hne2, hmr, Ne.symm hmr, zan, zax]; refine FinOK.cut [(m, mOb lets r g), (r, tOb T)] (nx) (by simp [zaa, getK, zab, zac, Ob.under, D.under, zad, zae, hm, hr, hne, hne2, hmr, Ne.symm hmr, zan, zax] <;> omega) (by simp [D.under]) (by simp [hn]) ?_; try simp)
  ·rw [zor h0 he hvx ha];rcases hvy : zbF lets (gF g) n y t1 with ⟨er | b, T⟩
   ·simp only [hvy, zb5] at hy ⊢
    (refine RetX.of_bodyW Tryz.func212 rfl (by simp) fun Γ hn hpan => ?_); simp only [entry, ziC, ziN, maC, maN, oA, Tryz.ntmps212]
    repeat' (first
  | ((first | refine zag ?_ | refine zaj ?_ | refine zah ?_ | refine zai ?_ | refine zao ?_ | fail); simp [hne, hne2, hmr, Ne.symm hmr, h0, nAA, del, ha])
  | (refine CallP.okL (hx _ (by first | omega | simp <;> omega | fail) ht) (by first | (simp [hne, hne2, hmr, Ne.symm hmr, h0, nAA, del, ha, zaa, getK, zab, zac, zak, zau, del]; done) | fail) (by rfl) (by rfl) ?_; (try simp [hne, hne2, hmr, Ne.symm hmr, h0, nAA, del, ha, zbY, del]))
  | (refine CallP.ziD (hy _ (by first | omega | simp <;> omega | fail) hxok1) (by first | (simp [hne, hne2, hmr, Ne.symm hmr, h0, nAA, del, ha, zaa, getK, zab, zac, zak, zau, del]; done) | fail) (by rfl) (by first | assumption | (simp; done) | fail) (by rfl) (by simp) ?_; refine ⟨_, Wk.refl _, ?_⟩; (try simp [hne, hne2, hmr, Ne.symm hmr, h0, nAA, del, ha, zbY, del]))
  | fail)
    (refine hpan _ _ ⟨{ n := _, env := [], obs := [(m, mOb lets r g), (r, tOb T)], next := nx }, (Wk.cut rfl (by simp [hn]) (by simp [wkO, zaa, getK, zab, zac, Ob.under, D.under, zad, zae, hm, hr, hne, hne2, hmr, Ne.symm hmr, zan, zax, zab, zac, zaa, getK] <;> (try omega)) (by simp [wkU, zam, zaa, getK, D.under, hm, hr, hne, hne2, hmr, Ne.symm hmr, zan, zax, zab, zac, zaa, getK] <;> (try omega)) (by simp [wkE, zam, zaa, getK, hm, hr, hne, hne2, hmr, Ne.symm hmr, zan, zax, zab, zac, zaa, getK] <;> (try omega))), (by simp [hn] <;> (try omega)), ?_⟩; try simp)
   ·simp only [hvy, zb5] at hy ⊢
    (refine RetX.of_bodyW Tryz.func212 rfl (by simp) fun Γ hn hpan => ?_); simp only [entry, ziC, ziN, maC, maN, oA, Tryz.ntmps212]
    repeat' (first
  | ((first | refine zag ?_ | refine zaj ?_ | refine zah ?_ | refine zai ?_ | refine zao ?_ | fail); simp [hne, hne2, hmr, Ne.symm hmr, h0, nAA, del, ha])
  | (refine zar ?_; simp only [zap])
  | (refine CallP.okL (hx _ (by first | omega | simp <;> omega | fail) ht) (by first | (simp [hne, hne2, hmr, Ne.symm hmr, h0, nAA, del, ha, zaa, getK, zab, zac, zak, zau, del]; done) | fail) (by rfl) (by rfl) ?_; (try simp [hne, hne2, hmr, Ne.symm hmr, h0, nAA, del, ha, zbY, del]))
  | (refine CallP.okL (hy _ (by first | omega | simp <;> omega | fail) hxok1) (by first | (simp [hne, hne2, hmr, Ne.symm hmr, h0, nAA, del, ha, zaa, getK, zab, zac, zak, zau, del]; done) | fail) (by rfl) (by rfl) ?_; (try simp [hne, hne2, hmr, Ne.symm hmr, h0, nAA, del, ha, zbY, del]))
  | fail)
    (refine EndW.here ?_; (first | (refine EndOK.fin (.inr rfl) ?_) | (refine EndOK.fin (.inl rfl) ?_)); simp [zaz, zaf, Tryz.results212, hm, hr, hne, hne2, hmr, Ne.symm hmr, zan, zax]; refine FinOK.cut [(m, mOb lets r g), (r, tOb T)] (nx) (by simp [zaa, getK, zab, zac, Ob.under, D.under, zad, zae, hm, hr, hne, hne2, hmr, Ne.symm hmr, zan, zax] <;> omega) (by simp [D.under]) (by simp [hn]) ?_; try simp)
theorem zmr {lets : List Let} {r : Nat} {g : GM} {m n : Nat} {e x y : Exp} (hmr : m ≠ r) (hop : 2 <= e.op /\ e.op <= 9) (hl : lets.length <= 20) (hnl : n <= lets.length) (he : e.args = [x, y]) (hVx : zdx lets r g m n x) (hTx : TMok lets.length (zbF lets (gF g) n x)) (hVy : zdx lets r g m n y) (hTy : TMok lets.length (zbF lets (gF g) n y)) : zdx lets r g m n e := by
 intro t nx hm hr ht;have hne := nef hm;have hne2 := nef hr;unfold zb7;have c0 : ¬ e.op = 0 := by omega
 have c1 : ¬ e.op = 1 := by omega
 have c2 : ¬ e.op = 10 := by omega
 have c3 : ¬ e.op = 11 := by omega
 have c4 : ¬ e.op = 12 := by omega
 have c5 : ¬ e.op = 13 := by omega
 have hx := zdu hVx e 0 (by rw [he]; rfl) hmr nx hm hr t;have hxok := hTx t ht;rcases hvx : zbF lets (gF g) n x t with ⟨er | a, t1⟩
 ·obtain ⟨T, rfl⟩ : ∃ T, T = t1 := ⟨_, rfl⟩;rw [ze4 (by omega) (by omega) he hvx];simp only [hvx, zb5] at hx ⊢
  (refine RetX.of_bodyW Tryz.func212 rfl (by simp) fun Γ hn hpan => ?_); simp only [entry, ziC, ziN, maC, maN, oA, Tryz.ntmps212]
  repeat' (first
  | (refine zgb (fun nx' h' => hx nx' (by simp at h'; omega) ht) (by first | (simp [hne, hne2, hmr, Ne.symm hmr, c0, c1, c2, c3, c4, c5, nAA, del, zaa, getK, zab, zac, zak, zau, del]; done) | fail) (by rfl) (by first | assumption | (simp; done) | fail) (by rfl) (by simp) ?_ ?_; intro env' n' hn'; refine ⟨_, Wk.refl _, ?_⟩; (try simp [hne, hne2, hmr, Ne.symm hmr, c0, c1, c2, c3, c4, c5, nAA, del, zbY, del]))
  | (refine zjK rfl (by simp) ?_; simp)
  | (refine zaN rfl ?_; simp [hne, hne2, hmr, Ne.symm hmr, c0, c1, c2, c3, c4, c5, nAA, del]; (fail_if_success (guard_target =ₛ False)))
  | ((first | refine zag ?_ | refine zaj ?_ | refine zah ?_ | refine zai ?_ | fail); simp [hne, hne2, hmr, Ne.symm hmr, c0, c1, c2, c3, c4, c5, nAA, del])
  | (refine zdi (hC _ (zbn [m, r] nx (by simp <;> omega) (by simp <;> omega) (by apply Exists.intro; apply And.intro; (focus (repeat' (first | exact KF.nil | exact KL.nil | apply KF.cons | apply KL.cons 0 rfl | apply KL.cons 1 rfl | apply KL.cons 2 rfl | apply KL.cons 3 rfl | apply KL.cons 4 rfl | apply KL.cons 5 rfl | apply KL.cons 6 rfl | apply KL.cons 7 rfl | apply KL.cons 8 rfl | apply KL.cons 9 rfl))); kernel_rfl))) rfl; done)
  | (refine zaM rfl (by kernel_rfl) (by first | (simp [hn]; done) | (simp [hn]; omega) | fail) fun C k hC hk => ?_; simp [hne, hne2, hmr, Ne.symm hmr, c0, c1, c2, c3, c4, c5, nAA, del])
  | (refine zao ?_; simp [hne, hne2, hmr, Ne.symm hmr, c0, c1, c2, c3, c4, c5, nAA, del])
  | (refine zaq ?_; simp only [zap])
  | fail)
  (refine hpan _ _ ⟨{ n := _, env := [], obs := [(m, mOb lets r g), (r, tOb T)], next := nx }, (Wk.cut rfl (by simp [hn]) (by simp [wkO, zaa, getK, zab, zac, Ob.under, D.under, zad, zae, hm, hr, hne, hne2, hmr, Ne.symm hmr, zan, zax, zab, zac, zaa, getK] <;> (try omega)) (by simp [wkU, zam, zaa, getK, D.under, hm, hr, hne, hne2, hmr, Ne.symm hmr, zan, zax, zab, zac, zaa, getK] <;> (try omega)) (by simp [wkE, zam, zaa, getK, hm, hr, hne, hne2, hmr, Ne.symm hmr, zan, zax, zab, zac, zaa, getK] <;> (try omega))), (by simp [hn] <;> (try omega)), ?_⟩; try simp)
 ·rw [hvx] at hxok;simp only [hvx, zb5] at hx;have hxok1 := hxok.1;simp only at hxok1;have hy := zdu hVy e 1 (by rw [he]; rfl) hmr nx hm hr t1;have hyok := hTy t1 hxok1;have hx1 := fun nx' h1 h2 h3 => zk6 (v := a) (t1 := t1) hVx e 0 (by rw [he]; rfl) hmr nx hm hr t nx' h1 h2 h3;have hy1 := fun v T nx' h1 h2 h3 => zk6 (v := v) (t1 := T) hVy e 1 (by rw [he]; rfl) hmr nx hm hr t1 nx' h1 h2 h3;rcases hvy : zbF lets (gF g) n y t1 with ⟨er | b, T⟩
  ·rw [zmw hop he hvx hvy];simp only [hvy, zb5] at hy ⊢
   (refine RetX.of_bodyW Tryz.func212 rfl (by simp) fun Γ hn hpan => ?_); simp only [entry, ziC, ziN, maC, maN, oA, Tryz.ntmps212]
   repeat' (first
  | (refine zgX (fun nx' h' => hx1 nx' (by simp at h'; omega) ht hvx) (by first | (simp [hne, hne2, hmr, Ne.symm hmr, c0, c1, c2, c3, c4, c5, nAA, del, zaa, getK, zab, zac, zak, zau, del]; done) | fail) (by first | (simp [hne, hne2, hmr, Ne.symm hmr, c0, c1, c2, c3, c4, c5, nAA, del]; done) | fail) (by rfl) (by first | assumption | (simp; done) | fail) (by rfl) (by first | (simp [hne, hne2, hmr, Ne.symm hmr, c0, c1, c2, c3, c4, c5, nAA, del, D.under, Ob.under, zad, zae]; done) | (simp [hne, hne2, hmr, Ne.symm hmr, c0, c1, c2, c3, c4, c5, nAA, del, D.under, Ob.under, zad, zae]; omega) | fail) (by simp) ?_; (try simp [hne, hne2, hmr, Ne.symm hmr, c0, c1, c2, c3, c4, c5, nAA, del]))
  | (refine zgb (fun nx' h' => hy nx' (by simp at h'; omega) hxok1) (by first | (simp [hne, hne2, hmr, Ne.symm hmr, c0, c1, c2, c3, c4, c5, nAA, del, zaa, getK, zab, zac, zak, zau, del]; done) | fail) (by rfl) (by first | assumption | (simp; done) | fail) (by rfl) (by simp) ?_ ?_; intro env' n' hn'; refine ⟨_, Wk.refl _, ?_⟩; (try simp [hne, hne2, hmr, Ne.symm hmr, c0, c1, c2, c3, c4, c5, nAA, del, zbY, del]))
  | (refine zjK rfl (by simp) ?_; simp)
  | (refine zaN rfl ?_; simp [hne, hne2, hmr, Ne.symm hmr, c0, c1, c2, c3, c4, c5, nAA, del]; (fail_if_success (guard_target =ₛ False)))
  | ((first | refine zag ?_ | refine zaj ?_ | refine zah ?_ | refine zai ?_ | fail); simp [hne, hne2, hmr, Ne.symm hmr, c0, c1, c2, c3, c4, c5, nAA, del])
  | (refine zdi (hC _ (zbn [m, r] nx (by simp <;> omega) (by simp <;> omega) (by apply Exists.intro; apply And.intro; (focus (repeat' (first | exact KF.nil | exact KL.nil | apply KF.cons | apply KL.cons 0 rfl | apply KL.cons 1 rfl | apply KL.cons 2 rfl | apply KL.cons 3 rfl | apply KL.cons 4 rfl | apply KL.cons 5 rfl | apply KL.cons 6 rfl | apply KL.cons 7 rfl | apply KL.cons 8 rfl | apply KL.cons 9 rfl))); kernel_rfl))) rfl; done)
  | (refine zaM rfl (by kernel_rfl) (by first | (simp [hn]; done) | (simp [hn]; omega) | fail) fun C k hC hk => ?_; simp [hne, hne2, hmr, Ne.symm hmr, c0, c1, c2, c3, c4, c5, nAA, del])
  | (refine zao ?_; simp [hne, hne2, hmr, Ne.symm hmr, c0, c1, c2, c3, c4, c5, nAA, del])
  | (refine zaq ?_; simp only [zap])
  | fail)
   (refine hpan _ _ ⟨{ n := _, env := [], obs := [(m, mOb lets r g), (r, tOb T)], next := nx }, (Wk.cut rfl (by simp [hn]) (by simp [wkO, zaa, getK, zab, zac, Ob.under, D.under, zad, zae, hm, hr, hne, hne2, hmr, Ne.symm hmr, zan, zax, zab, zac, zaa, getK] <;> (try omega)) (by simp [wkU, zam, zaa, getK, D.under, hm, hr, hne, hne2, hmr, Ne.symm hmr, zan, zax, zab, zac, zaa, getK] <;> (try omega)) (by simp [wkE, zam, zaa, getK, hm, hr, hne, hne2, hmr, Ne.symm hmr, zan, zax, zab, zac, zaa, getK] <;> (try omega))), (by simp [hn] <;> (try omega)), ?_⟩; try simp)
  ·rw [zot hop he hvx hvy];rw [hvy] at hyok;have hb := fun nx' (h : nx <= nx') => zmd lets r g m nx' (by omega) (by omega) e x y a b n hnl hl he (hxok.2.1 a rfl) (hyok.2.1 b rfl) hop;simp only [hvy, zb5] at hy ⊢;unfold zb7 at hb;cases hbx : zhf e.op (zcz (lets.take n) x || zcz (lets.take n) y) a b with
   | error er =>
    simp only [hbx, zb5] at hb ⊢
    (refine RetX.of_bodyW Tryz.func212 rfl (by simp) fun Γ hn hpan => ?_); simp only [entry, ziC, ziN, maC, maN, oA, Tryz.ntmps212]
    repeat' (first
  | (refine zgX (fun nx' h' => hx1 nx' (by simp at h'; omega) ht hvx) (by first | (simp [hne, hne2, hmr, Ne.symm hmr, c0, c1, c2, c3, c4, c5, nAA, del, zaa, getK, zab, zac, zak, zau, del]; done) | fail) (by first | (simp [hne, hne2, hmr, Ne.symm hmr, c0, c1, c2, c3, c4, c5, nAA, del]; done) | fail) (by rfl) (by first | assumption | (simp; done) | fail) (by rfl) (by first | (simp [hne, hne2, hmr, Ne.symm hmr, c0, c1, c2, c3, c4, c5, nAA, del, D.under, Ob.under, zad, zae]; done) | (simp [hne, hne2, hmr, Ne.symm hmr, c0, c1, c2, c3, c4, c5, nAA, del, D.under, Ob.under, zad, zae]; omega) | fail) (by simp) ?_; (try simp [hne, hne2, hmr, Ne.symm hmr, c0, c1, c2, c3, c4, c5, nAA, del]))
  | (refine zgX (fun nx' h' => hy1 _ _ nx' (by simp at h'; omega) hxok1 hvy) (by first | (simp [hne, hne2, hmr, Ne.symm hmr, c0, c1, c2, c3, c4, c5, nAA, del, zaa, getK, zab, zac, zak, zau, del]; done) | fail) (by first | (simp [hne, hne2, hmr, Ne.symm hmr, c0, c1, c2, c3, c4, c5, nAA, del]; done) | fail) (by rfl) (by first | assumption | (simp; done) | fail) (by rfl) (by first | (simp [hne, hne2, hmr, Ne.symm hmr, c0, c1, c2, c3, c4, c5, nAA, del, D.under, Ob.under, zad, zae]; done) | (simp [hne, hne2, hmr, Ne.symm hmr, c0, c1, c2, c3, c4, c5, nAA, del, D.under, Ob.under, zad, zae]; omega) | fail) (by simp) ?_; (try simp [hne, hne2, hmr, Ne.symm hmr, c0, c1, c2, c3, c4, c5, nAA, del]))
  | (refine zgb (fun nx' h' => hb nx' (by simp at h'; omega)) (by first | (simp [hne, hne2, hmr, Ne.symm hmr, c0, c1, c2, c3, c4, c5, nAA, del, zaa, getK, zab, zac, zak, zau, del]; done) | fail) (by rfl) (by first | assumption | (simp; done) | fail) (by rfl) (by simp) ?_ ?_; intro env' n' hn'; refine ⟨_, Wk.refl _, ?_⟩; (try simp [hne, hne2, hmr, Ne.symm hmr, c0, c1, c2, c3, c4, c5, nAA, del, zbY, del]))
  | (refine zaN rfl ?_; simp [hne, hne2, hmr, Ne.symm hmr, c0, c1, c2, c3, c4, c5, nAA, del]; (fail_if_success (guard_target =ₛ False)))
  | ((first | refine zag ?_ | refine zaj ?_ | refine zah ?_ | refine zai ?_ | fail); simp [hne, hne2, hmr, Ne.symm hmr, c0, c1, c2, c3, c4, c5, nAA, del])
  | (refine zdi (hC _ (zbn [m, r] nx (by simp <;> omega) (by simp <;> omega) (by apply Exists.intro; apply And.intro; (focus (repeat' (first | exact KF.nil | exact KL.nil | apply KF.cons | apply KL.cons 0 rfl | apply KL.cons 1 rfl | apply KL.cons 2 rfl | apply KL.cons 3 rfl | apply KL.cons 4 rfl | apply KL.cons 5 rfl | apply KL.cons 6 rfl | apply KL.cons 7 rfl | apply KL.cons 8 rfl | apply KL.cons 9 rfl))); kernel_rfl))) rfl; done)
  | (refine zaM rfl (by kernel_rfl) (by first | (simp [hn]; done) | (simp [hn]; omega) | fail) fun C k hC hk => ?_; simp [hne, hne2, hmr, Ne.symm hmr, c0, c1, c2, c3, c4, c5, nAA, del])
  | (refine zao ?_; simp [hne, hne2, hmr, Ne.symm hmr, c0, c1, c2, c3, c4, c5, nAA, del])
  | (refine zaq ?_; simp only [zap])
  | fail)
    (refine hpan _ _ ⟨{ n := _, env := [], obs := [(m, mOb lets r g), (r, tOb T)], next := nx }, (Wk.cut rfl (by simp [hn]) (by simp [wkO, zaa, getK, zab, zac, Ob.under, D.under, zad, zae, hm, hr, hne, hne2, hmr, Ne.symm hmr, zan, zax, zab, zac, zaa, getK] <;> (try omega)) (by simp [wkU, zam, zaa, getK, D.under, hm, hr, hne, hne2, hmr, Ne.symm hmr, zan, zax, zab, zac, zaa, getK] <;> (try omega)) (by simp [wkE, zam, zaa, getK, hm, hr, hne, hne2, hmr, Ne.symm hmr, zan, zax, zab, zac, zaa, getK] <;> (try omega))), (by simp [hn] <;> (try omega)), ?_⟩; try simp)
   | ok v =>
    simp only [hbx, zb5] at hb ⊢
    (refine RetX.of_bodyW Tryz.func212 rfl (by simp) fun Γ hn hpan => ?_); simp only [entry, ziC, ziN, maC, maN, oA, Tryz.ntmps212]
    repeat' (first
  | (refine zgX (fun nx' h' => hx1 nx' (by simp at h'; omega) ht hvx) (by first | (simp [hne, hne2, hmr, Ne.symm hmr, c0, c1, c2, c3, c4, c5, nAA, del, zaa, getK, zab, zac, zak, zau, del]; done) | fail) (by first | (simp [hne, hne2, hmr, Ne.symm hmr, c0, c1, c2, c3, c4, c5, nAA, del]; done) | fail) (by rfl) (by first | assumption | (simp; done) | fail) (by rfl) (by first | (simp [hne, hne2, hmr, Ne.symm hmr, c0, c1, c2, c3, c4, c5, nAA, del, D.under, Ob.under, zad, zae]; done) | (simp [hne, hne2, hmr, Ne.symm hmr, c0, c1, c2, c3, c4, c5, nAA, del, D.under, Ob.under, zad, zae]; omega) | fail) (by simp) ?_; (try simp [hne, hne2, hmr, Ne.symm hmr, c0, c1, c2, c3, c4, c5, nAA, del]))
  | (refine zgX (fun nx' h' => hy1 _ _ nx' (by simp at h'; omega) hxok1 hvy) (by first | (simp [hne, hne2, hmr, Ne.symm hmr, c0, c1, c2, c3, c4, c5, nAA, del, zaa, getK, zab, zac, zak, zau, del]; done) | fail) (by first | (simp [hne, hne2, hmr, Ne.symm hmr, c0, c1, c2, c3, c4, c5, nAA, del]; done) | fail) (by rfl) (by first | assumption | (simp; done) | fail) (by rfl) (by first | (simp [hne, hne2, hmr, Ne.symm hmr, c0, c1, c2, c3, c4, c5, nAA, del, D.under, Ob.under, zad, zae]; done) | (simp [hne, hne2, hmr, Ne.symm hmr, c0, c1, c2, c3, c4, c5, nAA, del, D.under, Ob.under, zad, zae]; omega) | fail) (by simp) ?_; (try simp [hne, hne2, hmr, Ne.symm hmr, c0, c1, c2, c3, c4, c5, nAA, del]))
  | (refine ze3 (fun nx' h' => hb nx' (by simp at h'; omega)) (by first | (simp [hne, hne2, hmr, Ne.symm hmr, c0, c1, c2, c3, c4, c5, nAA, del, zaa, getK, zab, zac, zak, zau, del]; done) | fail) rfl (by first | (simp [hne, hne2, hmr, Ne.symm hmr, c0, c1, c2, c3, c4, c5, nAA, del]; done) | fail) (by rfl) (by first | assumption | (simp; done) | fail) (by rfl) (by first | (simp [hne, hne2, hmr, Ne.symm hmr, c0, c1, c2, c3, c4, c5, nAA, del, D.under, Ob.under, zad, zae]; done) | (simp [hne, hne2, hmr, Ne.symm hmr, c0, c1, c2, c3, c4, c5, nAA, del, D.under, Ob.under, zad, zae]; omega) | fail) (by simp) ?_; (try simp [hne, hne2, hmr, Ne.symm hmr, c0, c1, c2, c3, c4, c5, nAA, del]))
  | ((first | refine zag ?_ | refine zaN rfl ?_ | refine zaj ?_ | refine zah ?_ | refine zai ?_ | fail); simp [hne, hne2, hmr, Ne.symm hmr, c0, c1, c2, c3, c4, c5, nAA, del])
  | (refine za4 (hC _ (zbn [m, r] nx (by simp <;> omega) (by simp <;> omega) (by apply Exists.intro; apply And.intro; (focus (repeat' (first | exact KF.nil | exact KL.nil | apply KF.cons | apply KL.cons 0 rfl | apply KL.cons 1 rfl | apply KL.cons 2 rfl | apply KL.cons 3 rfl | apply KL.cons 4 rfl | apply KL.cons 5 rfl | apply KL.cons 6 rfl | apply KL.cons 7 rfl | apply KL.cons 8 rfl | apply KL.cons 9 rfl))); kernel_rfl))) (hk _ ?_); clear hC hk C k; simp only [zap])
  | (refine zaM rfl (by kernel_rfl) (by first | (simp [hn]; done) | (simp [hn]; omega) | fail) fun C k hC hk => ?_; simp [hne, hne2, hmr, Ne.symm hmr, c0, c1, c2, c3, c4, c5, nAA, del])
  | (refine zao ?_; simp [hne, hne2, hmr, Ne.symm hmr, c0, c1, c2, c3, c4, c5, nAA, del])
  | ((first | refine zar ?_ | refine zaq ?_ | fail); simp only [zap])
  | fail)
    (refine EndW.here ?_; (first | (refine EndOK.fin (.inr rfl) ?_) | (refine EndOK.fin (.inl rfl) ?_)); simp [zaz, zaf, Tryz.results212, hm, hr, hne, hne2, hmr, Ne.symm hmr, zan, zax]; refine FinOK.cut [(m, mOb lets r g), (r, tOb T)] (nx) (by simp [zaa, getK, zab, zac, Ob.under, D.under, zad, zae, hm, hr, hne, hne2, hmr, Ne.symm hmr, zan, zax] <;> omega) (by simp [D.under]) (by simp [hn]) ?_; try simp)
end Go.Proofs.YtepiegcjnaohjaaGreatDoor
namespace Go.Proofs.YtepiegcjnaohjaaGreatDoor
open Go Go.VL
theorem zjZ {l : List Tok} (hl : TokOK l) {f p : Nat} (hE : zfX l f) (hf : 4 * (l.length - p) <= f) {t : Tok} (ht : l[p]? = some t) (hk : ¬ t.kind = 2) (h1 : isB l p [116, 114, 117, 101] = false) (h2 : isB l p [102, 97, 108, 115, 101] = false)
  (h3 : isB l p [109, 105, 110] = true) (h4 : isB l p [109, 97, 120] = false) {i nx : Nat} (hi : i < nx) :
  RetX Tryz.prog 283 [.ptr i 0] [(i, pOb l p)] nx (PPost l i nx zeh (zaX l (f + 1) p)) := zhp hl hE hf ht hk h1 h2 (.inr ⟨h3, h4⟩) hi
end Go.Proofs.YtepiegcjnaohjaaGreatDoor
namespace Go.Proofs.YtepiegcjnaohjaaGreatDoor
open Go Go.VL
def zrr (lets : List Let) (r : Nat) (g : GM) (m n : Nat) (e : Exp) : Prop := ∀ (t : Tab) (nx : Nat), m < nx -> r < nx -> TabOK lets.length t ->
 RetX Tryz.prog 149 [.ptr m 0, zb7 e, .u (.int .i64 n)] [(m, mOb lets r g), (r, tOb t)] nx
  (fun o obs n' => o = .val (.tup [.u (.int .i64 (zg1 (zbF lets (gF g) n e t).1).1), .u (.int .i64 (zg1 (zbF lets (gF g) n e t).1).2.1)]) /\ obs = [(m, mOb lets r g), (r, tOb (zbF lets (gF g) n e t).2)] /\ n' = nx)
end Go.Proofs.YtepiegcjnaohjaaGreatDoor
namespace Go.Proofs.YtepiegcjnaohjaaGreatDoor
open Go Go.VL
attribute [local simp] HS zc6 zb2 evPure opd uOf zaC St.put St.at getK binD binI binS binB nilD aggD zhd zir lookD lookR zcB rangeS Go.VL.nextD Go.VL.nextS zcD ziF ziE zgE zbX mkV za8 zbj zbi zbh zc0 zbc zbq zbC mapEff zdd zf0 Key.kk shiftI arith unD convD zd4 loadD cellsAt fieldAddrD fieldD indexAddrD indexSlD arrAddr indexD sliceD cutD lenD minmaxD nilCheckD buildD fillD zbS zde zeV setAll zcM zeM zcv zhH zcr St.add zaS zbP rowsOf zdS zcw zak zac zaa zbm zcX zaQ entry zbI zbR valD zbU zcx zg2 zdv zdw zbZ zbO zaw zaR zbs delAll effD St.effS zdb zbk za1 zdc zbl za3 zcf za2 zaV zcg zc7 zbJ zcd zbt zcb zcc zau mkD zbw zbD zbN zaw zcu D.ids Op.operands Call.operands zbz makeIfD makeFuncD typeAssertD zio zdI zdJ zhX zcC IntKind.bits zcG List.take_of_length_le List.range_succ
attribute [local irreducible] V G H HD HD2 HD4 zmf RetX zap Eff CallP CallV EndOK Fun Ret FinOK LoopI LoopW EndW
theorem zi1 {l : List Tok} (hl : TokOK l) {f p : Nat} {t : Tok} (ht : l[p]? = some t) (hk : ¬ t.kind = 2) (h1 : isB l p [116, 114, 117, 101] = false) (h2 : isB l p [102, 97, 108, 115, 101] = false)
  (h3 : isB l p [109, 105, 110] = false) (h4 : isB l p [109, 97, 120] = false) (h5 : isB l p [40] = false) {i nx : Nat} (hi : i < nx) :
  RetX Tryz.prog 283 [.ptr i 0] [(i, pOb l p)] nx (PPost l i nx zeh (zaX l (f + 1) p)) := by
 have hne := zaP hi;have hp := (lGE.1 ht).1;have hnx := zb4 l p t ht hl.len;have hll := hl.len;rw [zaX, ht];have hh1 := fun nx' (h : nx <= nx') => zbf l p [116, 114, 117, 101] i nx' (by omega) hp hl.len;have hh2 := fun nx' (h : nx <= nx') => zbf l p [102, 97, 108, 115, 101] i nx' (by omega) hp hl.len;have hm1 := zeg l p [109, 105, 110] hp hl.len;have hm2 := zeg l p [109, 97, 120] hp hl.len;have hh3 := fun nx' (h : nx <= nx') => zbf l p [40] i nx' (by omega) hp hl.len;have hnm := zf5 t.text;have hc1 := fun nx' (h : nx <= nx') => zeL l p 12 i nx' (by omega);have hc2 := fun nx' (h : nx <= nx') => zdt l p t 12 i nx' (by omega) ht hl.len;simp only [hk, h1, h2, h3, h4, h5, if_false, if_true, Bool.false_eq_true, or_self] at hh1 hh2 hm1 hm2 hh3 ⊢;by_cases hw : t.kind = 1
 ·cases hb : zd6 t.text with
  | true =>
   simp only [hb, hw, and_self, if_true] at hnm ⊢
   (refine RetX.of_bodyW Tryz.func283 rfl (by simp) fun Γ hn hpan => ?_); simp only [entry, ziC, ziN, maC, maN, oA, Tryz.ntmps283]
   repeat' (first
  | ((first | refine zag ?_ | refine zaj ?_ | fail); simp [hne, hk, hw, del, nAA])
  | (refine ⟨by omega, ?_⟩)
  | ((first | refine zah ?_ | refine zai ?_ | fail); simp [hne, hk, hw, del, nAA])
  | ((first | refine zar ?_ | refine zaq ?_ | fail); simp only [zap])
  | (refine CallP.fE (hnx) (by first | rfl | fail) (by first | simp [hne, hk, hw, del, nAA] <;> rfl | fail) ?_; (try simp [hne, hk, hw, del, nAA]))
  | (refine CallP.fE (hm1) (by first | rfl | fail) (by first | simp [hne, hk, hw, del, nAA] <;> rfl | fail) ?_; (try simp [hne, hk, hw, del, nAA]))
  | (refine CallP.fE (hm2) (by first | rfl | fail) (by first | simp [hne, hk, hw, del, nAA] <;> rfl | fail) ?_; (try simp [hne, hk, hw, del, nAA]))
  | (refine CallP.fE (hnm) (by first | rfl | fail) (by first | simp [hne, hk, hw, del, nAA] <;> rfl | fail) ?_; (try simp [hne, hk, hw, del, nAA]))
  | (refine CallP.ok1 (hh1 _ (by first | omega | simp <;> omega | fail)) (by first | (simp [hne, hk, hw, del, nAA, zaa, getK, zab, zac]; done) | fail) (by rfl) (by rfl) ?_; (try simp [hne, hk, hw, del, nAA]))
  | (refine CallP.ok1 (hh2 _ (by first | omega | simp <;> omega | fail)) (by first | (simp [hne, hk, hw, del, nAA, zaa, getK, zab, zac]; done) | fail) (by rfl) (by rfl) ?_; (try simp [hne, hk, hw, del, nAA]))
  | (refine CallP.ok1 (hh3 _ (by first | omega | simp <;> omega | fail)) (by first | (simp [hne, hk, hw, del, nAA, zaa, getK, zab, zac]; done) | fail) (by rfl) (by rfl) ?_; (try simp [hne, hk, hw, del, nAA]))
  | (refine CallP.ok1 (hc1 _ (by first | omega | simp <;> omega | fail)) (by first | (simp [hne, hk, hw, del, nAA, zaa, getK, zab, zac]; done) | fail) (by rfl) (by rfl) ?_; (try simp [hne, hk, hw, del, nAA]))
  | fail)
   refine EndW.norm ?_;simp [St.norm, za9, zbG, zb1, zbV, hne]
   (refine EndW.here ?_; (first | (refine EndOK.fin (.inr rfl) ?_) | (refine EndOK.fin (.inl rfl) ?_)); simp [zaz, zaf, Tryz.results283, hne, hi]; refine FinOK.cut [(i, pOb l (p + 1))] (nx) (by simp [zaa, getK, zab, zac, Ob.under, D.under, zad, zae, hne, hi] <;> omega) (by simp [D.under]) (by simp [hn]) ?_; try simp)
   exact PPost.zch rfl (by simp [Exp.row]) rfl
  | false =>
   simp only [hb, hw, Bool.false_eq_true, and_false, if_false] at hnm ⊢
   (refine RetX.of_bodyW Tryz.func283 rfl (by simp) fun Γ hn hpan => ?_); simp only [entry, ziC, ziN, maC, maN, oA, Tryz.ntmps283]
   repeat' (first
  | ((first | refine zag ?_ | refine zaj ?_ | refine zah ?_ | refine zai ?_ | fail); simp [hne, hk, hw, del, nAA])
  | (refine zaq ?_; simp only [zap])
  | (refine CallP.fE (hnx) (by first | rfl | fail) (by first | simp [hne, hk, hw, del, nAA] <;> rfl | fail) ?_; (try simp [hne, hk, hw, del, nAA]))
  | (refine CallP.fE (hm1) (by first | rfl | fail) (by first | simp [hne, hk, hw, del, nAA] <;> rfl | fail) ?_; (try simp [hne, hk, hw, del, nAA]))
  | (refine CallP.fE (hm2) (by first | rfl | fail) (by first | simp [hne, hk, hw, del, nAA] <;> rfl | fail) ?_; (try simp [hne, hk, hw, del, nAA]))
  | (refine CallP.fE (hnm) (by first | rfl | fail) (by first | simp [hne, hk, hw, del, nAA] <;> rfl | fail) ?_; (try simp [hne, hk, hw, del, nAA]))
  | (refine CallP.ok1 (hh1 _ (by first | omega | simp <;> omega | fail)) (by first | (simp [hne, hk, hw, del, nAA, zaa, getK, zab, zac]; done) | fail) (by rfl) (by rfl) ?_; (try simp [hne, hk, hw, del, nAA]))
  | (refine CallP.ok1 (hh2 _ (by first | omega | simp <;> omega | fail)) (by first | (simp [hne, hk, hw, del, nAA, zaa, getK, zab, zac]; done) | fail) (by rfl) (by rfl) ?_; (try simp [hne, hk, hw, del, nAA]))
  | (refine CallP.ok1 (hh3 _ (by first | omega | simp <;> omega | fail)) (by first | (simp [hne, hk, hw, del, nAA, zaa, getK, zab, zac]; done) | fail) (by rfl) (by rfl) ?_; (try simp [hne, hk, hw, del, nAA]))
  | (refine CallP.zeQ (hc2 _ (by first | omega | simp <;> omega | fail)) (by first | (simp [hne, hk, hw, del, nAA, zaa, getK, zab, zac]; done) | fail) (by rfl) (by first | assumption | (simp; done) | fail) (by rfl) (by simp) ?_; rintro ob' ⟨q', rfl⟩; refine ⟨_, Wk.refl _, ?_⟩)
  | fail)
   (refine hpan _ _ ⟨{ n := _, env := [], obs := [(i, pOb l q')], next := nx }, (Wk.cut rfl (by simp [hn]) (by simp [wkO, zaa, getK, zab, zac, Ob.under, D.under, zad, zae, hi, hne, zab, zac, zaa, getK]) (by simp [wkU, zam, zaa, getK, D.under, hi, hne, zab, zac, zaa, getK]) (by simp [wkE, zam, zaa, getK, hi, hne, zab, zac, zaa, getK])), by simp [hn], ?_⟩; try simp)
   exact PPost.zaB rfl
 ·simp only [hw, false_and, if_false]
  (refine RetX.of_bodyW Tryz.func283 rfl (by simp) fun Γ hn hpan => ?_); simp only [entry, ziC, ziN, maC, maN, oA, Tryz.ntmps283]
  repeat' (first
  | ((first | refine zag ?_ | refine zaj ?_ | refine zah ?_ | refine zai ?_ | fail); simp [hne, hk, hw, del, nAA])
  | (refine zaq ?_; simp only [zap])
  | (refine CallP.fE (hnx) (by first | rfl | fail) (by first | simp [hne, hk, hw, del, nAA] <;> rfl | fail) ?_; (try simp [hne, hk, hw, del, nAA]))
  | (refine CallP.fE (hm1) (by first | rfl | fail) (by first | simp [hne, hk, hw, del, nAA] <;> rfl | fail) ?_; (try simp [hne, hk, hw, del, nAA]))
  | (refine CallP.fE (hm2) (by first | rfl | fail) (by first | simp [hne, hk, hw, del, nAA] <;> rfl | fail) ?_; (try simp [hne, hk, hw, del, nAA]))
  | (refine CallP.ok1 (hh1 _ (by first | omega | simp <;> omega | fail)) (by first | (simp [hne, hk, hw, del, nAA, zaa, getK, zab, zac]; done) | fail) (by rfl) (by rfl) ?_; (try simp [hne, hk, hw, del, nAA]))
  | (refine CallP.ok1 (hh2 _ (by first | omega | simp <;> omega | fail)) (by first | (simp [hne, hk, hw, del, nAA, zaa, getK, zab, zac]; done) | fail) (by rfl) (by rfl) ?_; (try simp [hne, hk, hw, del, nAA]))
  | (refine CallP.ok1 (hh3 _ (by first | omega | simp <;> omega | fail)) (by first | (simp [hne, hk, hw, del, nAA, zaa, getK, zab, zac]; done) | fail) (by rfl) (by rfl) ?_; (try simp [hne, hk, hw, del, nAA]))
  | (refine CallP.zeQ (hc2 _ (by first | omega | simp <;> omega | fail)) (by first | (simp [hne, hk, hw, del, nAA, zaa, getK, zab, zac]; done) | fail) (by rfl) (by first | assumption | (simp; done) | fail) (by rfl) (by simp) ?_; rintro ob' ⟨q', rfl⟩; refine ⟨_, Wk.refl _, ?_⟩)
  | fail)
  (refine hpan _ _ ⟨{ n := _, env := [], obs := [(i, pOb l q')], next := nx }, (Wk.cut rfl (by simp [hn]) (by simp [wkO, zaa, getK, zab, zac, Ob.under, D.under, zad, zae, hi, hne, zab, zac, zaa, getK]) (by simp [wkU, zam, zaa, getK, D.under, hi, hne, zab, zac, zaa, getK]) (by simp [wkE, zam, zaa, getK, hi, hne, zab, zac, zaa, getK])), by simp [hn], ?_⟩; try simp)
  exact PPost.zaB rfl
theorem zkQ {l : List Tok} {p : Nat} {w : List UInt8} {t : Tok} (ht : l[p]? = some t) (h : isB l p w = true) : t.text = w := by
 unfold isB at h;rw [ht] at h;simp only [Bool.and_eq_true, decide_eq_true_eq] at h;exact h.2
theorem zi0 {l : List Tok} (hl : TokOK l) {f : Nat} (hE : zfX l f) : zhN l (f + 1) := by
 intro p i nx hi hp hf;obtain ⟨t, ht⟩ : ∃ t, l[p]? = some t := ⟨_, List.getElem?_eq_getElem hp⟩;by_cases hk : t.kind = 2
 ·exact zjY hl ht hk hi
 cases h1 : isB l p [116, 114, 117, 101] with
 | true => exact ziZ hl ht hk h1 hi
 | false =>
 cases h2 : isB l p [102, 97, 108, 115, 101] with
 | true => exact zh5 hl ht hk h1 h2 hi
 | false =>
 cases h3 : isB l p [109, 105, 110] with
 | true =>
  cases h4 : isB l p [109, 97, 120] with
  | true => exact absurd ((zkQ ht h3).symm.trans (zkQ ht h4)) (by decide)
  | false => exact zjZ hl hE (by omega) ht hk h1 h2 h3 h4 hi
 | false =>
 cases h4 : isB l p [109, 97, 120] with
 | true => exact zj0 hl hE (by omega) ht hk h1 h2 h3 h4 hi
 | false =>
 cases h5 : isB l p [40] with
 | true => exact zh4 hl hE (by omega) ht hk h1 h2 h3 h4 h5 hi
 | false => exact zi1 hl ht hk h1 h2 h3 h4 h5 hi
theorem zdM (N : Nat) (t : Tab) (c : Nat) (a b : Int) (d : Bool) : (∀ x ∈ (t.map fun x => [D.u (.int .i64 x.1), D.u (.int .i64 x.2.1), D.u (.bool x.2.2)]).set c [D.u (.int .i64 a), D.u (.int .i64 b), D.u (.bool d)], ∀ y ∈ x, D.under N y = true) ↔ True := by
 refine ⟨fun _ => trivial, fun _ => ?_⟩;have h : ((t.map fun x => [D.u (.int .i64 x.1), D.u (.int .i64 x.2.1), D.u (.bool x.2.2)]).set c [D.u (.int .i64 a), D.u (.int .i64 b), D.u (.bool d)]) = (t.set c (a, b, d)).map fun x => [D.u (.int .i64 x.1), D.u (.int .i64 x.2.1), D.u (.bool x.2.2)] := by rw [List.map_set]
 rw [h];intro x hx;obtain ⟨q, _, rfl⟩ := List.mem_map.1 hx;intro y hy;simp at hy;rcases hy with rfl | rfl | rfl <;> simp [D.under]
theorem znb {lets : List Let} {g : List UInt8 -> Option Int} {s : List UInt8} {v : Int} (h : g s = some v) : ∀ n, nmT lets g n s = TM.ret (.ok v)
 | 0 => by rw [nmT, h]
 | n + 1 => by rw [nmT, h]
theorem zrK {lets : List Let} {g : List UInt8 -> Option Int} {s : List UInt8} (h : g s = none) : nmT lets g 0 s = TM.ret (.error 13) := by rw [nmT, h]
theorem zm9 {lets : List Let} {g : List UInt8 -> Option Int} {s : List UInt8} {c : Nat} {l : Let} (h : g s = none) (hl : lets[c]? = some l) (hs : ¬ l.name = s) : nmT lets g (c + 1) s = nmT lets g c s := by
 rw [nmT, h, hl];simp only;rw [if_neg hs]
theorem zoJ {lets : List Let} {g : List UInt8 -> Option Int} {s : List UInt8} {c : Nat} {l : Let} {t : Tab} {v e : Int} (h : g s = none) (hl : lets[c]? = some l) (hs : l.name = s) (ht : t[c]? = some (v, e, true)) :
  nmT lets g (c + 1) s t = (zjN v e, t) := by
 rw [nmT, h, hl];simp only;rw [if_pos hs];simp only [ht]
theorem zp6 {lets : List Let} {g : List UInt8 -> Option Int} {s : List UInt8} {c : Nat} {l : Let} {t : Tab} {v e : Int} (h : g s = none) (hl : lets[c]? = some l) (hs : l.name = s) (ht : t[c]? = some (v, e, false)) :
  nmT lets g (c + 1) s t = (zjN (zg1 (zbF lets g c l.body t).1).1 (zg1 (zbF lets g c l.body t).1).2.1, (zbF lets g c l.body t).2.set c (zg1 (zbF lets g c l.body t).1)) := by
 rw [nmT, h, hl];simp only;rw [if_pos hs];simp only [ht];rfl
theorem zoN {lets : List Let} {r : Nat} {g : GM} {m n : Nat} (hgs : ∀ s v, gF g s = some v -> inC v) (hrb : ∀ l ∈ lets, zaO 12 l.body = true) (hT : ∀ i l, i < n -> lets[i]? = some l -> zrr lets r g m i l.body) (s : List UInt8) (hnl : n <= lets.length) (hl : lets.length <= 20) (hmr : m ≠ r) (t : Tab) (nx : Nat) (hm : m < nx) (hr : r < nx) (htab : TabOK lets.length t) :
  RetX Tryz.prog 269 [.ptr m 0, .u (.str s), .u (.int .i64 n)] [(m, mOb lets r g), (r, tOb t)] nx
   (fun o obs n' => o = zb5 (nmT lets (gF g) n s t).1 /\ obs = [(m, mOb lets r g), (r, tOb (nmT lets (gF g) n s t).2)] /\ n' = nx) := by
 have hne := nef hm;have hne2 := nef hr;have hlen := htab.len;have hg := zkL g s;rcases hga : asc g s with _ | v
 ·have hgz : gF g s = none := hga;rw [hga] at hg;simp only [Option.map_none] at hg;generalize hR : nmT lets (gF g) n s = R
  (refine RetX.of_bodyW Tryz.func269 rfl (by simp) fun Γ hn hpan => ?_); simp only [entry, ziC, ziN, maC, maN, oA, Tryz.ntmps269]
  repeat' (first
  | ((first | refine zag ?_ | refine zaj ?_ | fail); simp [hne, hne2, hmr, Ne.symm hmr, hg])
  | (refine ⟨by omega, ?_⟩)
  | ((first | refine zah ?_ | refine zai ?_ | refine zao ?_ | fail); simp [hne, hne2, hmr, Ne.symm hmr, hg])
  | (refine zaq ?_; simp only [zap])
  | fail)
  refine zcq (α := { c : Nat // c <= n /\ R = nmT lets (gF g) c s }) [0, 1] (fun c => [(9, .u (.int .i64 ((c.1 : Int) - 1)))]) (fun c => [(m, mOb lets r g), (r, tOb t)]) nx (fun c => c.1) ⟨n, by omega, hR.symm⟩ ?_ ?_
  ·exact (Wk.cut rfl (by simp [hn, St.lp]) (by simp [wkO, St.lp, zaa, getK, Ob.under, D.under, zad, zae, hm, hr, hne, hne2, hmr, Ne.symm hmr, zan]) (by simp [wkU, St.lp, zam, zaa, getK, D.under, hm, hr, hne, hne2, hmr, Ne.symm hmr, zan]) (by simp [wkE, St.lp, zam, zaa, getK, hm, hr, hne, hne2, hmr, Ne.symm hmr, zan] <;> (try (intros; simp_all; done)) <;> (try (intros; omega)) <;> (try grind)))
  rintro ⟨c, hc1, hc2⟩;simp [St.lp, St.only, zam, zaa, getK];rcases c with _ | c
  ·rw [zrK hgz] at hc2;rw [hc2] at hpan
   repeat' (first
  | ((first | refine zag ?_ | refine zaj ?_ | refine zah ?_ | refine zai ?_ | refine zat ?_ | fail); simp [hne, hne2, hmr, Ne.symm hmr])
  | (refine zaZ ?_; simp [zap])
  | fail)
   (refine hpan _ _ ⟨{ n := _, env := [], obs := [(m, mOb lets r g), (r, tOb t)], next := nx }, (Wk.cut rfl (by simp [hn]) (by simp [wkO, zaa, getK, zab, zac, Ob.under, D.under, zad, zae, hm, hr, hne, hne2, hmr, Ne.symm hmr, zan] <;> (try omega)) (by simp [wkU, zam, zaa, getK, D.under, hm, hr, hne, hne2, hmr, Ne.symm hmr, zan] <;> (try omega)) (by simp [wkE, zam, zaa, getK, hm, hr, hne, hne2, hmr, Ne.symm hmr, zan] <;> (try omega))), (by simp [hn] <;> (try omega)), ?_⟩; try simp)
   all_goals simp [TM.ret, zb5, chF]
  ·obtain ⟨l, hx⟩ : ∃ l, lets[c]? = some l := ⟨_, List.getElem?_eq_getElem (by omega)⟩;obtain ⟨⟨v0, e0, d0⟩, hy⟩ : ∃ q, t[c]? = some q := ⟨_, List.getElem?_eq_getElem (by omega)⟩;by_cases hs : l.name = s
   ·cases d0
    ·have hc3 := congrFun hc2 t;rw [zp6 hgz hx hs hy] at hc3;have hTT := fun nx' (h : nx <= nx') => hT c l (by omega) hx t nx' (by omega) (by omega) htab;obtain ⟨k1, k2, k3⟩ := zmu hrb hgs c 12 l.body (hrb l (List.mem_of_getElem? hx)) t htab;generalize zbF lets (gF g) c l.body t = w at *;obtain ⟨res, t1⟩ := w;have hlen1 := k1.len;simp only at hlen1 k2 k3 hc3 hTT;unfold zb7 at hTT;obtain ⟨⟨v1, e1, d1⟩, hz⟩ : ∃ q, t1[c]? = some q := ⟨_, List.getElem?_eq_getElem (by omega)⟩;have hst : ∀ x : List D, ((t1.map fun x => [D.u (.int .i64 x.1), D.u (.int .i64 x.2.1), D.u (.bool x.2.2)]).set c x)[c]? = some x := fun x => List.getElem?_set_self (by simp; omega);have hcl : t1.length = lets.length := hlen1;rcases res with er | v
     ·have her := k3 er rfl;simp only [zg1, zjN, if_neg her] at hc3 hTT;rw [hc3] at hpan
      repeat' (first
  | ((first | refine zag ?_ | refine zaj ?_ | fail); simp [hne, hne2, hmr, Ne.symm hmr, hx, hy, hz, hs, her, zax, hst, List.set_set])
  | (refine ⟨by omega, ?_⟩)
  | ((first | refine zah ?_ | refine zai ?_ | refine zat ?_ | fail); simp [hne, hne2, hmr, Ne.symm hmr, hx, hy, hz, hs, her, zax, hst, List.set_set])
  | (refine zaq ?_; simp only [zap])
  | (refine ⟨?_, by omega⟩)
  | (refine CallP.okL (hTT _ (by first | omega | simp <;> omega | fail)) (by first | (simp [hne, hne2, hmr, Ne.symm hmr, hx, hy, hz, hs, her, zax, hst, List.set_set, zaa, getK, zab, zac, zak, zau, del]; done) | fail) (by rfl) (by rfl) ?_; (try simp [hne, hne2, hmr, Ne.symm hmr, hx, hy, hz, hs, her, zax, hst, List.set_set, zbY, del]))
  | fail)
      (refine hpan _ _ ⟨{ n := _, env := [], obs := [(m, mOb lets r g), (r, tOb (t1.set c (0, er, true)))], next := nx }, (Wk.cut rfl (by simp [hn]) (by simp [wkO, zaa, getK, zab, zac, Ob.under, D.under, zad, zae, hm, hr, hne, hne2, hmr, Ne.symm hmr, zan, zdM, zax, List.map_set] <;> (try omega)) (by simp [wkU, zam, zaa, getK, D.under, hm, hr, hne, hne2, hmr, Ne.symm hmr, zan, zdM, zax, List.map_set] <;> (try omega)) (by simp [wkE, zam, zaa, getK, hm, hr, hne, hne2, hmr, Ne.symm hmr, zan, zdM, zax, List.map_set] <;> (try omega))), (by simp [hn] <;> (try omega)), ?_⟩; try simp)
      all_goals first | rfl | simp [zjN, zb5, her, chF]
     ·simp only [zg1, zjN, if_true] at hc3 hTT;rw [hc3]
      repeat' (first
  | ((first | refine zag ?_ | refine zaj ?_ | fail); simp [hne, hne2, hmr, Ne.symm hmr, hx, hy, hz, hs, zax, hst, List.set_set])
  | (refine ⟨by omega, ?_⟩)
  | ((first | refine zah ?_ | refine zai ?_ | refine zat ?_ | fail); simp [hne, hne2, hmr, Ne.symm hmr, hx, hy, hz, hs, zax, hst, List.set_set])
  | ((first | refine zar ?_ | refine zaq ?_ | fail); simp only [zap])
  | (refine ⟨?_, by omega⟩)
  | (refine CallP.okL (hTT _ (by first | omega | simp <;> omega | fail)) (by first | (simp [hne, hne2, hmr, Ne.symm hmr, hx, hy, hz, hs, zax, hst, List.set_set, zaa, getK, zab, zac, zak, zau, del]; done) | fail) (by rfl) (by rfl) ?_; (try simp [hne, hne2, hmr, Ne.symm hmr, hx, hy, hz, hs, zax, hst, List.set_set, zbY, del]))
  | fail)
      (refine EndW.here ?_; (first | (refine EndOK.fin (.inr rfl) ?_) | (refine EndOK.fin (.inl rfl) ?_)); simp [zaz, zaf, Tryz.results269, hm, hr, hne, hne2, hmr, Ne.symm hmr, zan, zdM, zax, List.map_set]; refine FinOK.cut [(m, mOb lets r g), (r, tOb (t1.set c (v, 0, true)))] (nx) (by simp [zaa, getK, zab, zac, Ob.under, D.under, zad, zae, hm, hr, hne, hne2, hmr, Ne.symm hmr, zan, zdM, zax, List.map_set] <;> omega) (by simp [D.under]) (by simp [hn]) ?_; try simp)
      all_goals first | rfl | simp [zjN, zb5]
    ·have hc3 := congrFun hc2 t;rw [zoJ hgz hx hs hy] at hc3;rw [hc3] at hpan ⊢;by_cases he : e0 = 0
     ·repeat' (first
  | ((first | refine zag ?_ | refine zaj ?_ | fail); simp [hne, hne2, hmr, Ne.symm hmr, hx, hy, hs, he, zax])
  | (refine ⟨by omega, ?_⟩)
  | ((first | refine zah ?_ | refine zai ?_ | fail); simp [hne, hne2, hmr, Ne.symm hmr, hx, hy, hs, he, zax])
  | ((first | refine zar ?_ | refine zaq ?_ | fail); simp only [zap])
  | (refine ⟨?_, by omega⟩)
  | fail)
      (refine EndW.here ?_; (first | (refine EndOK.fin (.inr rfl) ?_) | (refine EndOK.fin (.inl rfl) ?_)); simp [zaz, zaf, Tryz.results269, hm, hr, hne, hne2, hmr, Ne.symm hmr, zan, zax]; refine FinOK.cut [(m, mOb lets r g), (r, tOb t)] (nx) (by simp [zaa, getK, zab, zac, Ob.under, D.under, zad, zae, hm, hr, hne, hne2, hmr, Ne.symm hmr, zan, zax] <;> omega) (by simp [D.under]) (by simp [hn]) ?_; try simp)
      all_goals first | rfl | simp [zjN, zb5, he]
     ·repeat' (first
  | ((first | refine zag ?_ | refine zaj ?_ | fail); simp [hne, hne2, hmr, Ne.symm hmr, hx, hy, hs, he, zax])
  | (refine ⟨by omega, ?_⟩)
  | ((first | refine zah ?_ | refine zai ?_ | refine zat ?_ | fail); simp [hne, hne2, hmr, Ne.symm hmr, hx, hy, hs, he, zax])
  | (refine zaq ?_; simp only [zap])
  | (refine ⟨?_, by omega⟩)
  | fail)
      (refine hpan _ _ ⟨{ n := _, env := [], obs := [(m, mOb lets r g), (r, tOb t)], next := nx }, (Wk.cut rfl (by simp [hn]) (by simp [wkO, zaa, getK, zab, zac, Ob.under, D.under, zad, zae, hm, hr, hne, hne2, hmr, Ne.symm hmr, zan, zax] <;> (try omega)) (by simp [wkU, zam, zaa, getK, D.under, hm, hr, hne, hne2, hmr, Ne.symm hmr, zan, zax] <;> (try omega)) (by simp [wkE, zam, zaa, getK, hm, hr, hne, hne2, hmr, Ne.symm hmr, zan, zax] <;> (try omega))), (by simp [hn] <;> (try omega)), ?_⟩; try simp)
      all_goals first | rfl | simp [zjN, zb5, he, chF]
   ·rw [zm9 hgz hx hs] at hc2
    repeat' (first
  | ((first | refine zag ?_ | refine zaj ?_ | fail); simp [hne, hne2, hmr, Ne.symm hmr, hx, hs, zax])
  | (refine ⟨by omega, ?_⟩)
  | ((first | refine zah ?_ | refine zai ?_ | refine zat ?_ | fail); simp [hne, hne2, hmr, Ne.symm hmr, hx, hs, zax])
  | (refine zaq ?_; simp only [zap])
  | (refine zaZ ?_; simp [zap])
  | fail)
    refine LoopW.next ⟨c, by omega, hc2⟩ (by simp) ?_
    exact (Wk.cut rfl (by simp [hn, St.lp]) (by simp [wkO, St.lp, zaa, getK, Ob.under, D.under, zad, zae, hm, hr, hne, hne2, hmr, Ne.symm hmr, zan, zax]) (by simp [wkU, St.lp, zam, zaa, getK, D.under, hm, hr, hne, hne2, hmr, Ne.symm hmr, zan, zax]) (by simp [wkE, St.lp, zam, zaa, getK, hm, hr, hne, hne2, hmr, Ne.symm hmr, zan, zax] <;> (try (intros; simp_all; done)) <;> (try (intros; omega)) <;> (try grind)))
 ·rw [hga] at hg;simp only [Option.map_some] at hg;rw [znb (by exact hga) n];simp only [TM.ret, zb5]
  (refine RetX.of_bodyW Tryz.func269 rfl (by simp) fun Γ hn hpan => ?_); simp only [entry, ziC, ziN, maC, maN, oA, Tryz.ntmps269]
  repeat' (first
  | ((first | refine zag ?_ | refine zaj ?_ | refine zah ?_ | refine zai ?_ | fail); simp [hne, hne2, hmr, Ne.symm hmr, hg])
  | (refine zar ?_; simp only [zap])
  | fail)
  (refine EndW.here ?_; (first | (refine EndOK.fin (.inr rfl) ?_) | (refine EndOK.fin (.inl rfl) ?_)); simp [zaz, zaf, Tryz.results269, hm, hr, hne, hne2, hmr, Ne.symm hmr, zan]; refine FinOK.cut [(m, mOb lets r g), (r, tOb t)] (nx) (by simp [zaa, getK, zab, zac, Ob.under, D.under, zad, zae, hm, hr, hne, hne2, hmr, Ne.symm hmr, zan] <;> omega) (by simp [D.under]) (by simp [hn]) ?_; try simp)
theorem zoz (i j nx : Nat) (hi : i < nx) (hj : j < nx) (hij : i ≠ j) (v e : Int) :
  RetDf Tryz.prog 211 [.ptr i 0, .ptr j 0] [(i, .box [.u (.int .i64 v)]), (j, .box [.u (.int .i64 e)])] nx .returning
   (fun u o n => settle u = .returning /\ n = nx /\ o = [(i, .box [.u (.int .i64 v)]), (j, .box [.u (.int .i64 e)])]) := by
 have hne := nef hi;have hne2 := nef hj;refine RetDf.of_body Tryz.func211 rfl (by simp) (by simp) rfl fun Γ hn => ?_;simp [entry, zjX, Tryz.ntmps211]
 repeat' (first
  | ((first | refine zag ?_ | refine zaj ?_ | refine zah ?_ | refine zai ?_ | fail); simp [hne, hne2, hij, Ne.symm hij])
  | (refine zaq ?_; simp only [zap])
  | fail)
 (refine ⟨by simp, { n := _, env := [], obs := [(i, .box [.u (.int .i64 v)]), (j, .box [.u (.int .i64 e)])], next := nx }, (Wk.cut rfl (by simp [hn]) (by simp [wkO, zaa, getK, zab, zac, Ob.under, D.under, zad, zae, hi, hj, hne, hne2, hij, Ne.symm hij]) (by simp [wkU, zam, zaa, getK, D.under, hi, hj, hne, hne2, hij, Ne.symm hij]) (by simp [wkE, zam, zaa, getK, hi, hj, hne, hne2, hij, Ne.symm hij])), by simp [hn], ?_⟩; try simp)
 all_goals rfl
theorem zoA (i j nx : Nat) (hi : i < nx) (hj : j < nx) (hij : i ≠ j) (v e err : Int) :
  RetDf Tryz.prog 211 [.ptr i 0, .ptr j 0] [(i, .box [.u (.int .i64 v)]), (j, .box [.u (.int .i64 e)])] nx (.panicking (chF err))
   (fun u o n => settle u = .returning /\ n = nx /\ o = [(i, .box [.u (.int .i64 0)]), (j, .box [.u (.int .i64 err)])]) := by
 have hne := nef hi;have hne2 := nef hj;refine RetDf.of_body Tryz.func211 rfl (by simp) (by simp) rfl fun Γ hn => ?_;simp [entry, zjX, chF, Tryz.ntmps211]
 repeat' (first
  | ((first | refine zag ?_ | refine zaN rfl ?_ | refine zci rfl ?_ | refine zaj ?_ | refine zah ?_ | refine zai ?_ | fail); simp [hne, hne2, hij, Ne.symm hij])
  | (refine za4 (hC _ (zbn [i, j] nx (by simp <;> omega) (by simp <;> omega) (by apply Exists.intro; apply And.intro; (focus (repeat' (first | exact KF.nil | exact KL.nil | apply KF.cons | apply KL.cons 0 rfl | apply KL.cons 1 rfl | apply KL.cons 2 rfl | apply KL.cons 3 rfl | apply KL.cons 4 rfl | apply KL.cons 5 rfl | apply KL.cons 6 rfl | apply KL.cons 7 rfl | apply KL.cons 8 rfl | apply KL.cons 9 rfl))); kernel_rfl))) (hk _ ?_); clear hC hk C k; simp only [zap])
  | (refine zaM rfl (by kernel_rfl) (by first | (simp [hn]; done) | (simp [hn]; omega) | fail) fun C k hC hk => ?_; simp [hne, hne2, hij, Ne.symm hij])
  | (refine zaq ?_; simp only [zap])
  | fail)
 (refine ⟨by simp, { n := _, env := [], obs := [(i, .box [.u (.int .i64 0)]), (j, .box [.u (.int .i64 err)])], next := nx }, (Wk.cut rfl (by simp [hn]) (by simp [wkO, zaa, getK, zab, zac, Ob.under, D.under, zad, zae, hi, hj, hne, hne2, hij, Ne.symm hij]) (by simp [wkU, zam, zaa, getK, D.under, hi, hj, hne, hne2, hij, Ne.symm hij]) (by simp [wkE, zam, zaa, getK, hi, hj, hne, hne2, hij, Ne.symm hij])), by simp [hn], ?_⟩; try simp)
 all_goals rfl
theorem zmE {lets : List Let} {r : Nat} {g : GM} {m n : Nat} {e : Exp} (hV : zdx lets r g m n e) (hmr : m ≠ r) : zrr lets r g m n e := by
 intro t nx hm hr ht;have hne := nef hm;have hne2 := nef hr;have hv := fun nx' (h : nx <= nx') => hV t nx' (by omega) (by omega) ht;unfold zb7 at hv ⊢;rcases hvl : zbF lets (gF g) n e t with ⟨er | v, t1⟩
 ·simp only [hvl, zb5, zg1] at hv ⊢
  (refine RetX.zeN Tryz.func149 rfl (by simp) fun Γ hn hdfr hpan hesc => ?_); simp only [entry, ziC, ziN, maC, maN, oA, Tryz.ntmps149]
  rw [zeF]
  repeat' (first
  | ((first | refine zag ?_ | refine zaj ?_ | refine zah ?_ | fail); simp [hne, hne2, hmr, Ne.symm hmr, nAA, del])
  | fail)
  refine zix hesc hdfr rfl (by simp) ?_;have hn0 := hn;have hpan0 := hpan;intro Γ' hn hpan;simp
  repeat' (first
  | ((first | refine zag ?_ | refine zah ?_ | fail); simp [hne, hne2, hmr, Ne.symm hmr, nAA, del])
  | (refine CallP.ziD (hv _ (by first | omega | simp <;> omega | fail)) (by first | (simp [hne, hne2, hmr, Ne.symm hmr, nAA, del, zaa, getK, zab, zac, zak, zau, del]; done) | fail) (by rfl) (by first | assumption | (simp; done) | fail) (by rfl) (by simp) ?_; refine ⟨_, Wk.refl _, ?_⟩; (try simp [hne, hne2, hmr, Ne.symm hmr, nAA, del, zbY, del]))
  | fail)
  refine hpan _ _ ?_;refine LeaveD.of [(nx + 1, .box [.u (.int .i64 0)]), (nx + 2, .box [.u (.int .i64 0)])] (by simp [hne, hne2, zaa, getK, zab, zac]) (zoA (nx + 1) (nx + 2) _ (by simp) (by simp) (by simp) 0 0 _) ?_;simp only [show Γ.base.n0 = nx from hn0];simp [zbY, del, hne, hne2, hmr, Ne.symm hmr]
  (refine EndW.here ?_; (first | (refine EndOK.fin (.inr rfl) ?_) | (refine EndOK.fin (.inl rfl) ?_)); simp [zaz, zaf, Tryz.results149, hm, hr, hne, hne2, hmr, Ne.symm hmr, zan, zax, Ctx.base, hn0]; refine FinOK.cut [(m, mOb lets r g), (r, tOb t1)] (nx) (by simp [zaa, getK, zab, zac, Ob.under, D.under, zad, zae, hm, hr, hne, hne2, hmr, Ne.symm hmr, zan, zax, Ctx.base, hn0] <;> omega) (by simp [D.under]) (by simp [hn]) ?_; try simp)
 ·simp only [hvl, zb5, zg1] at hv ⊢
  (refine RetX.zeN Tryz.func149 rfl (by simp) fun Γ hn hdfr hpan hesc => ?_); simp only [entry, ziC, ziN, maC, maN, oA, Tryz.ntmps149]
  rw [zeF]
  repeat' (first
  | ((first | refine zag ?_ | refine zaj ?_ | refine zah ?_ | fail); simp [hne, hne2, hmr, Ne.symm hmr, nAA, del])
  | fail)
  refine zix hesc hdfr rfl (by simp) ?_;have hn0 := hn;have hpan0 := hpan;intro Γ' hn hpan;simp
  repeat' (first
  | ((first | refine zag ?_ | refine zaj ?_ | refine zah ?_ | fail); simp [hne, hne2, hmr, Ne.symm hmr, nAA, del])
  | (refine zar ?_; simp only [zap])
  | (refine CallP.okL (hv _ (by first | omega | simp <;> omega | fail)) (by first | (simp [hne, hne2, hmr, Ne.symm hmr, nAA, del, zaa, getK, zab, zac, zak, zau, del]; done) | fail) (by rfl) (by rfl) ?_; (try simp [hne, hne2, hmr, Ne.symm hmr, nAA, del, zbY, del]))
  | fail)
  refine ⟨rfl, ?_⟩;refine LeaveD.of [(nx + 1, .box [.u (.int .i64 v)]), (nx + 2, .box [.u (.int .i64 0)])] (by simp [hne, hne2, zaa, getK, zab, zac]) (zoz (nx + 1) (nx + 2) _ (by simp) (by simp) (by simp) v 0) ?_;simp only [show Γ.base.n0 = nx from hn0];simp [zbY, del, hne, hne2, hmr, Ne.symm hmr]
  (refine EndW.here ?_; (first | (refine EndOK.fin (.inr rfl) ?_) | (refine EndOK.fin (.inl rfl) ?_)); simp [zaz, zaf, Tryz.results149, hm, hr, hne, hne2, hmr, Ne.symm hmr, zan, zax, Ctx.base, hn0]; refine FinOK.cut [(m, mOb lets r g), (r, tOb t1)] (nx) (by simp [zaa, getK, zab, zac, Ob.under, D.under, zad, zae, hm, hr, hne, hne2, hmr, Ne.symm hmr, zan, zax, Ctx.base, hn0] <;> omega) (by simp [D.under]) (by simp [hn]) ?_; try simp)
end Go.Proofs.YtepiegcjnaohjaaGreatDoor
namespace Go.Proofs.YtepiegcjnaohjaaGreatDoor
open Go Go.VL
theorem zrm {e : Exp} {d : Nat} (h : zaO (d + 1) e = true) (ho : zbb e.op = 1) : ∃ x, e.args = [x] := by
 obtain ⟨h1, _⟩ := zcJ h;exact List.length_eq_one_iff.1 (by omega)
theorem zn5 {e : Exp} {d : Nat} (h : zaO (d + 1) e = true) (ho : zbb e.op = 2) : ∃ x y, e.args = [x, y] := by
 obtain ⟨h1, _⟩ := zcJ h
 match hl : e.args, h1 with
 | [a, b], _ => exact ⟨a, b, rfl⟩
 | [], h => simp at h; omega
 | [a], h => simp at h; omega
 | a :: b :: c :: l, h => simp at h; omega
theorem zrl {e : Exp} {d : Nat} (h : zaO (d + 1) e = true) (ho : zbb e.op = 3) : ∃ x y z, e.args = [x, y, z] := by
 obtain ⟨h1, _⟩ := zcJ h
 match hl : e.args, h1 with
 | [a, b, c], _ => exact ⟨a, b, c, rfl⟩
 | [], h => simp at h; omega
 | [a], h => simp at h; omega
 | [a, b], h => simp at h; omega
 | a :: b :: c :: d :: l, h => simp at h; omega
theorem ziK {lets : List Let} {r : Nat} {g : GM} {m n : Nat} (hgs : ∀ s v, gF g s = some v -> inC v) (hrb : ∀ l ∈ lets, zaO 12 l.body = true) (hl : lets.length <= 20) (hmr : m ≠ r) (hnl : n <= lets.length) (hN : zpS lets r g m n) : ∀ (d : Nat) (e : Exp), zaO d e = true -> zdx lets r g m n e
 | 0, e, h => by simp [zaO] at h
 | d + 1, e, h => by
  obtain ⟨h1, h2, h3, h4⟩ := zcJ h;by_cases c0 : e.op = 0
  ·exact zmo hmr c0
  by_cases c1 : e.op = 1
  ·exact zle hmr c1 hN
  have hV : ∀ x ∈ e.args, zdx lets r g m n x := fun x hx => ziK hgs hrb hl hmr hnl hN d x (h4 c0 c1 x hx);have hT : ∀ x ∈ e.args, TMok lets.length (zbF lets (gF g) n x) := fun x hx => zmu hrb hgs n d x (h4 c0 c1 x hx);by_cases c2 : e.op = 10
  ·obtain ⟨x, y, he⟩ := zn5 h (by rw [c2]; rfl);rw [he] at hV hT;exact zms hmr c2 he (hV x (by simp)) (hT x (by simp)) (hV y (by simp)) (hT y (by simp))
  by_cases c3 : e.op = 11
  ·obtain ⟨x, y, he⟩ := zn5 h (by rw [c3]; rfl);rw [he] at hV hT;exact zok hmr c3 he (hV x (by simp)) (hT x (by simp)) (hV y (by simp)) (hT y (by simp))
  by_cases c4 : e.op = 12
  ·obtain ⟨x, he⟩ := zrm h (by rw [c4]; rfl);rw [he] at hV hT;exact zmp hmr c4 he (hV x (by simp)) (hT x (by simp))
  by_cases c5 : e.op = 13
  ·obtain ⟨x, y, z, he⟩ := zrl h (by rw [c5]; rfl);rw [he] at hV hT;exact zol hmr c5 he (hV x (by simp)) (hT x (by simp)) (hV y (by simp)) (hT y (by simp)) (hV z (by simp)) (hT z (by simp))
  obtain ⟨x, y, he⟩ := zn5 h (by unfold zbb; split <;> first | omega | (split <;> first | omega | (split <;> first | omega | (split <;> omega))));rw [he] at hV hT;exact zmr hmr (by omega) hl hnl he (hV x (by simp)) (hT x (by simp)) (hV y (by simp)) (hT y (by simp))
theorem zpa {lets : List Let} {r : Nat} {g : GM} {m : Nat} (hgs : ∀ s v, gF g s = some v -> inC v) (hrb : ∀ l ∈ lets, zaO 12 l.body = true) (hl : lets.length <= 20) (hmr : m ≠ r) :
  ∀ n, n <= lets.length -> ∀ (d : Nat) (e : Exp), zaO d e = true -> zdx lets r g m n e := by
 intro n
 induction n using Nat.strongRecOn with
 | _ n ih =>
  intro hnl;refine ziK hgs hrb hl hmr hnl fun s t nx hm hr ht => ?_;exact zoN hgs hrb (fun i l hi hx => zmE (ih i hi (by omega) 12 l.body (hrb l (List.mem_of_getElem? hx))) hmr) s hnl hl hmr t nx hm hr ht
def gV (vars : List Var) : GM := vars.foldl (fun g v => if asc g v.name = none then zcZ g v.name v.n else g) []
theorem zqi {vars : List Var} {i : Nat} {v : Var} (h : vars[i]? = some v) : gV (vars.take (i + 1)) = if asc (gV (vars.take i)) v.name = none then zcZ (gV (vars.take i)) v.name v.n else gV (vars.take i) := zfC _ _ h
def znE (v : Var) : Bool := decide (v.n <= 1099511627776) && decide (-1099511627776 <= v.n)
theorem zrd : ∀ (vars : List Var) (g : GM), (∀ s v, asc g s = some v -> inC v) -> (∀ v ∈ vars, znE v = true) -> ∀ s v, asc (vars.foldl (fun g v => if asc g v.name = none then zcZ g v.name v.n else g) g) s = some v -> inC v
 | [], g, hg, _, s, v, h => hg s v h
 | x :: l, g, hg, hv, s, v, h => by
  refine zrd l _ ?_ (fun y hy => hv y (by simp [hy])) s v h;intro s' v' h';simp only at h';split at h'
  ·rw [zkp] at h';split at h'
   ·cases h';have := hv x (by simp);simp only [znE, Bool.and_eq_true, decide_eq_true_eq] at this;exact ⟨this.2, this.1⟩
   ·exact hg s' v' h'
  ·exact hg s' v' h'
def zqN (lets : List Let) : Tab := List.replicate lets.length (0, 0, false)
def zgi (lets : List Let) (vars : List Var) (e : Exp) : Int × Int :=
 if zcA lets e = true /\ vars.all znE = true then ((zg1 (zbF lets (gF (gV vars)) lets.length e (zqN lets)).1).1, (zg1 (zbF lets (gF (gV vars)) lets.length e (zqN lets)).1).2.1) else (0, 1)
end Go.Proofs.YtepiegcjnaohjaaGreatDoor
namespace Go.Proofs.YtepiegcjnaohjaaGreatDoor
open Go Go.VL
def zqQ : List UInt8 := [100, 117, 101]
def zlo : List UInt8 := [102, 105, 110, 101]
def zqP : List UInt8 := [112, 97, 121]
def zda : List UInt8 := [99, 111, 118, 101, 114]
def zln : List UInt8 := [104, 111, 108, 100]
def zis (b : By) (c : List UInt8) : Option Exp :=
 if c = zqQ then some b.due else if c = zlo then some b.fine else if c = zqP then some b.pay else if c = zda then some b.cover else if c = zln then some b.hold else none
def zcE (b : By) (c : List UInt8) (vars : List Var) : Int × Int := match zis b c with
 | some e => if zco b = true then zgi b.lets vars e else (0, 1)
 | none => (0, 1)
end Go.Proofs.YtepiegcjnaohjaaGreatDoor
namespace Go.Proofs.YtepiegcjnaohjaaGreatDoor
open Go Go.VL
def zlF : List UInt8 := [112, 97, 105, 100]
def zfz : List UInt8 := [99, 108, 97, 105, 109, 115]
def zqT : List UInt8 := [97, 103, 101]
def zeA : List UInt8 := [109, 101, 109, 98, 101, 114, 115]
def cvA (paid many age members : Int) : List Var := [⟨zlF, 3, paid⟩, ⟨zfz, 1, many⟩, ⟨zqT, 2, age⟩, ⟨zeA, 1, members⟩]
def cvB (paid many age members : Int) : List Var := [⟨zeA, 0, members⟩, ⟨zqT, 0, age⟩, ⟨zfz, 0, many⟩, ⟨zlF, 0, paid⟩]
theorem zqj (p m a n : Int) : gF (gV (cvA p m a n)) = gF (gV (cvB p m a n)) := by
 funext s;unfold gF;have hA : gV (cvA p m a n) = [(zlF, p), (zfz, m), (zqT, a), (zeA, n)] \/ True := .inr trivial;by_cases h1 : s = zlF
 ·subst h1; rfl
 by_cases h2 : s = zfz
 ·subst h2; rfl
 by_cases h3 : s = zqT
 ·subst h3; rfl
 by_cases h4 : s = zeA
 ·subst h4; rfl
 have ho : ∀ vars : List Var, (∀ v ∈ vars, s ≠ v.name) -> asc (gV vars) s = none := fun vars hv => by
  unfold gV;have : ∀ (vars : List Var) (g : GM), asc g s = none -> (∀ v ∈ vars, s ≠ v.name) -> asc (vars.foldl (fun g v => if asc g v.name = none then zcZ g v.name v.n else g) g) s = none := by
   intro vars
   induction vars with
   | nil => intro g hg _; exact hg
   | cons v r ih =>
    intro g hg hv;refine ih _ ?_ fun w hw => hv w (by simp [hw]);show asc (if asc g v.name = none then zcZ g v.name v.n else g) s = none;split
    ·rw [zkp, if_neg (hv v (by simp))]; exact hg
    ·exact hg
  exact this vars [] rfl hv
 rw [ho _ (by simp [cvA, h1, h2, h3, h4]), ho _ (by simp [cvB, h1, h2, h3, h4])]
theorem zkm (b : By) (c : List UInt8) (p m a n : Int) : zcE b c (cvA p m a n) = zcE b c (cvB p m a n) := by
 unfold zcE;split
 ·split
  ·unfold zgi;rw [zqj];have : (cvA p m a n).all znE = (cvB p m a n).all znE := by simp [cvA, cvB, znE, Bool.and_comm, Bool.and_left_comm, Bool.and_assoc]
   rw [this]
  ·rfl
 ·rfl
end Go.Proofs.YtepiegcjnaohjaaGreatDoor
namespace Go.VL
open Go
theorem zro {P : Program} {Γ : Ctx} {c : Code} {s : St} {Q : Exit -> St -> Prop} {x j : Nat} {cells : List U} {rows : List (List U)} (hx : getK s.env x = some (.u (.agg cells))) (hj : cells[j]? = some (.sl rows)) (h : rows.length <= 9223372036854775807 -> V P Γ c s Q) : V P Γ c s Q :=
 zoa (fun K a w hs => by
  have hr := (hs.getK hx).2;obtain ⟨vs, hl, _, hr⟩ := zdB hr;have hr := hr j _ hj;generalize vs.getD j undef = v at hr;cases hr with
  | slE => simp
  | sl _ b o sz c f hc hcx => unfold maxLen at hcx; omega) h
end Go.VL
namespace Go.Proofs.YtepiegcjnaohjaaGreatDoor
open Go Go.VL
attribute [local simp] zc6 zb2 evPure opd uOf zaC St.put St.at getK binD binI binS binB nilD aggD zhd zir lookD lookR zcB rangeS Go.VL.nextD Go.VL.nextS zcD ziF ziE zgE zbX mkV za8 zbj zbi zbh zc0 zbc zbq zbC mapEff zdd zf0 Key.kk shiftI arith unD convD zd4 loadD cellsAt fieldAddrD fieldD indexAddrD indexSlD arrAddr indexD sliceD cutD lenD minmaxD nilCheckD buildD fillD zbS zde zeV setAll zcM zeM zcv zhH zcr St.add zaS zbP rowsOf zdS zcw zak zac zaa zbm zcX zaQ entry zbI zbR valD zbU zcx zg2 zdv zdw zbZ zbO zaw zaR zbs delAll effD St.effS zdb zbk za1 zdc zbl za3 zcf za2 zaV zcg zc7 zbJ zcd zbt zcb zcc zau mkD zbw zbD zbN zaw zcu D.ids Op.operands Call.operands zbz makeIfD makeFuncD typeAssertD zio zdI zdJ zhX zcC IntKind.bits zcG List.take_of_length_le List.range_succ
attribute [local irreducible] V G H HD HD2 zap Eff CallP CallV EndOK Fun Ret FinOK LoopI LoopW EndW
theorem zmY {l : List Tok} (hl : TokOK l) : ∀ f, zfX l f /\ zqD l f /\ zhN l f := by
 intro f
 induction f using Nat.strongRecOn with
 | _ f ih =>
  cases f with
  | zero => exact ⟨fun p form i nx _ _ h => by omega, fun p form i nx _ _ h => by omega, fun p i nx _ _ h => by omega⟩
  | succ f =>
   obtain ⟨h1, h2, h3⟩ := ih f (by omega);exact ⟨zo8 hl (fun g hg => (ih g (by omega)).1) h2, zj1 hl h1 h3, zi0 hl h1⟩
def Exp.lev : Exp -> Int
 | .mk _ _ _ _ args => (args.map fun e => e.lev).foldl max 0 + 1
theorem Exp.zg0 (e : Exp) : e.lev = (e.args.map Exp.lev).foldl max 0 + 1 := by
 cases e with
 | mk op n u s args => rw [Exp.lev]; rfl
theorem zb8 : ∀ (l : List Int) (a : Int), a <= l.foldl max a /\ ∀ x ∈ l, x <= l.foldl max a
 | [], a => ⟨by simp, fun x h => by simp at h⟩
 | b :: l, a => by
  obtain ⟨h1, h2⟩ := zb8 l (max a b);refine ⟨by simp only [List.foldl_cons]; omega, fun x hx => ?_⟩;rcases List.mem_cons.1 hx with rfl | hx
  ·simp only [List.foldl_cons]; omega
  ·exact h2 x hx
theorem Exp.lev_pos (e : Exp) : 1 <= e.lev := by
 rw [Exp.zg0];have := (zb8 (e.args.map Exp.lev) 0).1;omega
theorem Exp.zkv {e x : Exp} (h : x ∈ e.args) : SizeOf.sizeOf x < SizeOf.sizeOf e := by
 cases e with
 | mk op n u s args =>
  have := List.sizeOf_lt_of_mem h;simp only [Exp.args] at this;simp only [Exp.mk.sizeOf_spec];omega
theorem zlH : ∀ (n : Nat) (e : Exp), SizeOf.sizeOf e <= n -> e.lev <= 1000000000 -> Fun Tryz.prog 204 [.u (.agg e.row)] (· = .u (.int .i64 e.lev)) := by
 intro n
 induction n with
 | zero =>
  intro e h;cases e with
  | mk op n u s args => simp only [Exp.mk.sizeOf_spec] at h; omega
 | succ n ih =>
  intro e hs he;have hx : ∀ x ∈ e.args, Fun Tryz.prog 204 [.u (.agg [.int .i64 x.op, .int .i64 x.n, .int .i64 x.unit, .str x.s, .sl (x.args.map Exp.row)])] (· = .u (.int .i64 x.lev)) := fun x hx => by
   rw [<- Exp.row_eq];refine ih x (by have := Exp.zkv hx; omega) ?_;have := (zb8 (e.args.map Exp.lev) 0).2 x.lev (List.mem_map.2 ⟨x, hx, rfl⟩);rw [Exp.zg0] at he;omega
  have hlb : ∀ k, ((e.args.map Exp.lev).take k).foldl max 0 <= 1000000000 := fun k => by
   rw [<- List.map_take];rw [Exp.zg0] at he;have h2 : (e.args.map Exp.lev).foldl max 0 = (e.args.drop k |>.map Exp.lev).foldl max ((e.args.take k |>.map Exp.lev).foldl max 0) := by
    rw [<- List.foldl_append, <- List.map_append, List.take_append_drop]
   have := (zb8 (e.args.drop k |>.map Exp.lev) ((e.args.take k |>.map Exp.lev).foldl max 0)).1;omega
  rw [Exp.row_eq, Exp.zg0];generalize hA : e.args = A at *;rw [Exp.zg0, hA] at he
  (refine Fun.of_body Tryz.func204 rfl (by simp) fun Γ hn => ?_); simp only [entry, ziC, ziN, maC, maN, oA, Tryz.ntmps204]
  refine zro (x := 0) (j := 4) rfl rfl fun hl => ?_;simp at hl
  repeat' (first
  | ((first | refine zag ?_ | refine zaj ?_ | refine zah ?_ | refine zao ?_ | fail); simp)
  | fail)
  refine zbH (α := { k : Nat // k <= A.length }) [0, 1, 2, 7, 8] (fun k => [(9, .u (.int .i64 k.1)), (3, .u (.int .i64 (((A.map Exp.lev).take k.1).foldl max 0)))]) (fun k => A.length - k.1) ⟨0, by omega⟩ ?_ ?_
  ·exact (Wk.env rfl rfl rfl (by simp [wkE, St.lp, zam, zaa, getK] <;> (try (intros; simp_all; done)) <;> (try (intros; omega)) <;> (try grind)))
  rintro ⟨k, hk⟩;simp [St.lp, St.only, zam, zaa, getK];rcases hy : A[k]? with _ | y
  ·have hge : A.length <= k := by simpa using hy
   have hb := hlb k;rw [List.take_of_length_le (by simpa using hge : (A.map Exp.lev).length <= k)] at hb ⊢;have hb0 := (zb8 (A.map Exp.lev) 0).1;generalize (A.map Exp.lev).foldl max 0 = M at *
   repeat' (first
  | ((first | refine zag ?_ | refine zaj ?_ | fail); simp [hy])
  | (refine ⟨by omega, ?_⟩)
  | (refine zah ?_; simp [hy])
  | (refine zar ?_; simp only [zap])
  | (refine zaZ ?_; simp [zap])
  | (intro hc <;> (try (exfalso; omega)))
  | fail)
   (refine EndOK.val (.inr rfl) ?_; simp [zaz, zaf, zas, Tryz.results204])
  ·have hlt : k < A.length := (lGE.1 hy).1;have hfn := hx y (List.mem_of_getElem? hy);have ht : ((A.map Exp.lev).take (k + 1)).foldl max 0 = max (((A.map Exp.lev).take k).foldl max 0) y.lev := by
    rw [List.take_add_one, List.getElem?_map, hy];simp
   have hb := hlb (k + 1);rw [ht] at hb;have hb0 := (zb8 ((A.map Exp.lev).take k) 0).1;generalize hM : ((A.map Exp.lev).take k).foldl max 0 = M at *;have hyp := y.lev_pos
   repeat' (first
  | ((first | refine zag ?_ | refine zaj ?_ | fail); simp [hy, Exp.row_eq])
  | (refine ⟨by omega, ?_⟩)
  | ((first | refine zah ?_ | refine zat ?_ | fail); simp [hy, Exp.row_eq])
  | (refine zaq ?_; simp only [zap])
  | (refine ⟨?_, by omega⟩)
  | (intro hc <;> (try (exfalso; omega)))
  | (refine CallP.fE (hfn) (by first | rfl | fail) (by first | simp [hy, Exp.row_eq] <;> rfl | fail) ?_; (try simp [hy, Exp.row_eq]))
  | fail)
   refine LoopW.next ⟨k + 1, hlt⟩ (by show A.length - (k + 1) < A.length - k; omega) ?_
   exact (Wk.cut rfl (by simp [hn, St.lp]) (by simp [wkO, St.lp, zaa, getK, Ob.under, D.under, zad, zae, ht]) (by simp [wkU, St.lp, zam, zaa, getK, D.under, ht]) (by simp [wkE, St.lp, zam, zaa, getK, ht] <;> (try (intros; simp_all; done)) <;> (try (intros; omega)) <;> (try grind)))
end Go.Proofs.YtepiegcjnaohjaaGreatDoor
namespace Go.Proofs.YtepiegcjnaohjaaGreatDoor
open Go Go.VL
def zqS (l : List Tok) (p : Nat) (least most : Int) : PR Int := match l[p]? with
 | none => .stop 0 0
 | some t => if t.kind = 2 then if least <= t.n /\ t.n <= most then .ok t.n (p + 1) else .stop t.pos 3 else .stop t.pos 12
def zdP (l : List Tok) (p : Nat) (word : W8) (least most : Int) (behind : List W8) : PR Int :=
 if isB l p word = true then (zqS l (p + 1) least most).bind fun n q => (zbL l q behind).bind fun _ r => .ok n r else .ok 0 p
def zef (l : List Tok) (p : Nat) : PR Exp := (zej l (4 * l.length + 3) p 0).bind fun e q =>
 if isB l q [59] = true then if e.lev <= 12 then .ok e (q + 1) else .stop (zdo l q) 6 else .stop (zdo l q) 12
def zkc (l : List Tok) (p : Nat) : PR (Int × Bool) := (zbL l p [[99, 105, 114, 99, 108, 101]]).bind fun _ q =>
 if isB l q [114, 111, 116, 97, 116, 105, 110, 103] = true then (zbL l (q + 1) [[59]]).bind fun _ r => .ok (0, false) r
 else if isB l q [115, 97, 118, 105, 110, 103] = true then (zbL l (q + 1) [[59]]).bind fun _ r => .ok (2, false) r
 else (zbL l q [[98, 105, 100, 100, 105, 110, 103]]).bind fun _ r => if isB l r [115, 101, 97, 108, 101, 100] = true then (zbL l (r + 1) [[59]]).bind fun _ r => .ok (1, true) r else (zbL l r [[59]]).bind fun _ r => .ok (1, false) r
def ordersW : List W8 := [[106, 111, 105, 110], [100, 114, 97, 119], [110, 101, 101, 100]]
def zgu (l : List Tok) (p : Nat) : PR Int :=
 if isB l p [111, 114, 100, 101, 114] = true then match ordersW.findIdx? fun w => isB l (p + 1) w with
  | some i => (zbL l (p + 2) [[59]]).bind fun _ r => .ok i r
  | none => .stop (zdo l (p + 1)) 12
 else .ok 0 p
def zgD (l : List Tok) : Nat -> Nat -> List Let -> PR (List Let)
 | 0, _, _ => .stop 0 0
 | f + 1, p, acc => if isB l p [108, 101, 116] = true then
   if acc.length < 20 then match l[p + 1]? with
    | none => .stop 0 0
    | some t => if t.kind = 1 ∧ zd6 t.text = true then
          if (acc.any fun x => decide (x.name = t.text)) = true then .stop t.pos 5
          else (zbL l (p + 2) [[61]]).bind fun _ q => (zef l q).bind fun e r => zgD l f r (acc ++ [⟨t.text, e⟩])
     else .stop t.pos 12
   else .stop (zdo l p) 6
  else .ok acc p
def nothingE : Exp := .mk 0 0 3 [] []
def zdK (l : List Tok) (p : Nat) (word : W8) : PR Exp := if isB l p word = true then zef l (p + 1) else .ok nothingE p
def zj8 (l : List Tok) (p : Nat) (word : W8) : PR Unit := if isB l p word = true then .ok () p else .stop (zdo l p) 12
def zqo (l : List Tok) (p : Nat) : PR Unit := match l[p]? with | some t => if t.kind = 0 then .ok () p else .stop t.pos 12 | none => .stop 0 0
def zqr (l : List Tok) : PR By :=
 (zkc l 0).bind fun k p => (zj8 l p [112, 101, 114, 105, 111, 100]).bind fun _ p => (zdP l p [112, 101, 114, 105, 111, 100] 1 1000 [[100, 97, 121, 115], [59]]).bind fun period p =>
 (zj8 l p [108, 97, 115, 116]).bind fun _ p => (zdP l p [108, 97, 115, 116] 1 1000 [[59]]).bind fun last p =>
 (zdP l p [103, 114, 97, 99, 101] 0 1000 [[100, 97, 121, 115], [59]]).bind fun grace p => (zdP l p [119, 97, 105, 116] 0 1000 [[100, 97, 121, 115], [59]]).bind fun wait p =>
 (zgu l p).bind fun order p => (zdP l p [98, 97, 99, 107, 115] 0 60 [[59]]).bind fun backs p => (zdP l p [118, 111, 105, 99, 101, 115] 0 1000 [[112, 101, 114], [109, 105, 108, 108, 101], [59]]).bind fun voices p =>
 (zdP l p [106, 117, 114, 121] 0 60 [[59]]).bind fun jury p => (zdP l p [102, 117, 110, 100] 0 1000 [[112, 101, 114], [109, 105, 108, 108, 101], [59]]).bind fun fund p =>
 (zgD l 21 p []).bind fun lets p => (zbL l p [[100, 117, 101]]).bind fun _ p => (zef l p).bind fun due p =>
 (zdK l p [102, 105, 110, 101]).bind fun fine p => (zdK l p [112, 97, 121]).bind fun pay p => (zdK l p [99, 111, 118, 101, 114]).bind fun cover p => (zdK l p [104, 111, 108, 100]).bind fun hold p =>
 (zqo l p).bind fun _ p => .ok ⟨k.1, period, grace, wait, last, order, k.2, backs, voices, jury, fund, lets, due, fine, pay, cover, hold⟩ p
def StopAt (l : List Tok) (p : Nat) (S : List W8) : Prop := ∀ v, v ∉ S -> isB l p v = false
theorem StopAt.head {l p} {w : W8} {b : List W8} (h : Reads l p (w :: b)) : StopAt l p [w] := fun v hv => by
 rw [h.isB]; exact decide_eq_false fun e => hv (by simp [e])
theorem StopAt.more {l p} {S T : List W8} (h : StopAt l p S) (hs : ∀ v ∈ S, v ∈ T) : StopAt l p T := fun v hv => h v fun hm => hv (hs v hm)
end Go.Proofs.YtepiegcjnaohjaaGreatDoor
namespace Go.Proofs.YtepiegcjnaohjaaGreatDoor
open Go Go.VL
theorem znf {l : List Tok} {p q : Nat} {w : W8} {x : Unit} (h : zj8 l p w = .ok x q) : q = p /\ isB l p w = true := by
 unfold zj8 at h;split at h
 ·cases h; exact ⟨rfl, by assumption⟩
 ·cases h
def zmi (l : List Tok) (p : Nat) (b : Bool) (e : Int) : PR Unit := if b = true then .ok () p else .stop (zdo l p) e
theorem zgQ (l : List Tok) (p : Nat) (b : Bool) (e : Int) (i nx : Nat) (hi : i < nx) (hp : p < l.length) (hl : TokOK l) :
  RetX Tryz.prog 123 [.ptr i 0, .u (.bool b), .u (.int .i64 e)] [(i, pOb l p)] nx (PPost l i nx (fun _ => .tup []) (zmi l p b e)) := by
 obtain ⟨t, ht⟩ : ∃ t, l[p]? = some t := ⟨_, List.getElem?_eq_getElem hp⟩;have hpa : zdo l p = t.pos := by unfold zdo; rw [ht]
 unfold zmi;cases b with
 | true => exact zeL l p e i nx hi
 | false => rw [if_neg (by simp), hpa]; exact zdt l p t e i nx hi ht hl.len
theorem zkH (l : List Tok) (p : Nat) (w : W8) (i nx : Nat) (hi : i < nx) (hp : p < l.length) (hl : TokOK l) :
  RetX Tryz.prog 123 [.ptr i 0, .u (.bool (isB l p w)), .u (.int .i64 12)] [(i, pOb l p)] nx (PPost l i nx (fun _ => .tup []) (zj8 l p w)) := zgQ l p (isB l p w) 12 i nx hi hp hl
theorem znY {l : List Tok} {p q : Nat} {b : Bool} {e : Int} {x : Unit} (h : zmi l p b e = .ok x q) : q = p /\ b = true := by
 unfold zmi at h;split at h
 ·cases h; exact ⟨rfl, by assumption⟩
 ·cases h
theorem zqn {l : List Tok} {p : Nat} {t : Tok} (ht : l[p]? = some t) (i nx : Nat) (hi : i < nx) (hl : TokOK l) :
  RetX Tryz.prog 123 [.ptr i 0, .u (.bool (decide (t.kind = 0))), .u (.int .i64 12)] [(i, pOb l p)] nx (PPost l i nx (fun _ => .tup []) (zqo l p)) := by
 have h := zgQ l p (decide (t.kind = 0)) 12 i nx hi (lGE.1 ht).1 hl;have e : zmi l p (decide (t.kind = 0)) 12 = zqo l p := by
  unfold zmi zqo zdo;rw [ht];simp
 rwa [e] at h
theorem zrf {l : List Tok} {p q : Nat} {x : Unit} (h : zqo l p = .ok x q) : q = p := by
 unfold zqo at h;split at h
 ·split at h
  ·cases h; rfl
  ·cases h
 ·cases h
theorem zlI {l : List Tok} {f p : Nat} {acc : List Let} {t : Tok} (ht : l[p + 1]? = some t) : zgD l (f + 1) p acc = if isB l p [108, 101, 116] = true then
  (zmi l p (decide ((acc.length : Int) < 20)) 6).bind fun _ _ => (zmi l (p + 1) (decide (t.kind = 1) && zd6 t.text) 12).bind fun _ _ =>
  (zmi l (p + 1) (!(acc.any fun x => decide (x.name = t.text))) 5).bind fun _ _ => (zbL l (p + 2) [[61]]).bind fun _ q => (zef l q).bind fun e r => zgD l f r (acc ++ [⟨t.text, e⟩])
  else .ok acc p := by
 have hpa : zdo l (p + 1) = t.pos := by unfold zdo; rw [ht]
 rw [zgD, ht];unfold zmi;rw [hpa];by_cases h1 : isB l p [108, 101, 116] = true
 ·rw [if_pos h1, if_pos h1];by_cases h2 : acc.length < 20
  ·rw [if_pos h2, if_pos (by simp; omega), PR.bind_ok];simp only;by_cases h3 : t.kind = 1 /\ zd6 t.text = true
   ·have e3 : (decide (t.kind = 1) && zd6 t.text) = true := by simp [h3]
    rw [if_pos h3, e3];simp only [if_true, PR.bind_ok];by_cases h4 : (acc.any fun x => decide (x.name = t.text)) = true
    ·have e4 : (!acc.any fun x => decide (x.name = t.text)) = false := by rw [h4]; rfl
     rw [if_pos h4, e4];rfl
    ·have e4 : (!acc.any fun x => decide (x.name = t.text)) = true := by simpa using h4
     rw [if_neg h4, e4];rfl
   ·have e3 : (decide (t.kind = 1) && zd6 t.text) = false := by simpa using h3
    rw [if_neg h3, e3];rfl
  ·have e2 : decide ((acc.length : Int) < 20) = false := by simp; omega
   rw [if_neg h2, e2];rfl
 ·rw [if_neg h1, if_neg h1]
theorem znq {l : List Tok} {f p : Nat} {acc : List Let} (h : ¬ isB l p [108, 101, 116] = true) : zgD l (f + 1) p acc = .ok acc p := by rw [zgD, if_neg h]
theorem PR.zdW {α β γ : Type} {r : PR α} {f : α -> Nat -> PR β} {g : β -> Nat -> PR γ} : (r.bind f).bind g = r.bind fun a p => (f a p).bind g := by cases r <;> rfl
def zfU (acc : List Let) : List (List U) := acc.map fun l => [.str l.name, .int .i64 l.body.op, .int .i64 l.body.n, .int .i64 l.body.unit, .str l.body.s, .sl (l.body.args.map Exp.row)]
theorem znr (acc : List Let) : (zfU acc).length = acc.length := by simp [zfU]
theorem zlJ (acc : List Let) (s : W8) (e : Exp) : zfU (acc ++ [⟨s, e⟩]) = zfU acc ++ [[.str s, .int .i64 e.op, .int .i64 e.n, .int .i64 e.unit, .str e.s, .sl (e.args.map Exp.row)]] := by simp [zfU]
abbrev byD (b : By) : D := .u (.agg (zaI b))
end Go.Proofs.YtepiegcjnaohjaaGreatDoor
namespace Go.Proofs.YtepiegcjnaohjaaGreatDoor
open Go Go.VL
attribute [local simp] HS zc6 zb2 evPure opd uOf zaC St.put St.at getK binD binI binS binB nilD aggD zhd zir lookD lookR zcB rangeS Go.VL.nextD Go.VL.nextS zcD ziF ziE zgE zbX mkV za8 zbj zbi zbh zc0 zbc zbq zbC mapEff zdd zf0 Key.kk shiftI arith unD convD zd4 loadD cellsAt fieldAddrD fieldD indexAddrD indexSlD arrAddr indexD sliceD cutD lenD minmaxD nilCheckD buildD fillD zbS zde zeV setAll zcM zeM zcv zhH zcr St.add zaS zbP rowsOf zdS zcw zak zac zaa zbm zcX zaQ entry zbI zbR valD zbU zcx zg2 zdv zdw zbZ zbO zaw zaR zbs delAll effD St.effS zdb zbk za1 zdc zbl za3 zcf za2 zaV zcg zc7 zbJ zcd zbt zcb zcc zau mkD zbw zbD zbN zaw zcu D.ids Op.operands Call.operands zbz makeIfD makeFuncD typeAssertD zio zdI zdJ zhX zcC IntKind.bits zcG List.take_of_length_le List.range_succ
attribute [local irreducible] V G H HD HD2 HD4 zmf RetX zap Eff CallP CallV EndOK Fun Ret FinOK LoopI LoopW EndW
theorem znm {s : List UInt8} : ∀ (f p : Nat) (l : List Tok), znn f s p = .ok l -> s.length < p + f -> p <= s.length ->
  (∀ (i : Nat) (t : Tok), l[i]? = some t -> t.kind ≠ 0 -> i + 1 < l.length) /\ l.length <= s.length - p + 1 /\ 0 < l.length
 | 0, p, l, _, h2, h3 => by omega
 | f + 1, p, l, h, h2, h3 => by
  rw [znn] at h;have hle := zdA zbT (s.drop p);rw [List.length_drop] at hle;split at h
  ·cases h;refine ⟨fun i t hi hk => ?_, by simp, by simp⟩;rcases i with _ | i
   ·simp at hi;subst hi;exact absurd rfl hk
   ·simp at hi
  ·rename_i c r hd;have hdl : (s.drop (p + zce zbT (s.drop p))).length = r.length + 1 := by rw [hd]; rfl
   rw [List.length_drop] at hdl;split at h
   ·cases h
   ·rename_i t ht;obtain ⟨ht1, ht2⟩ := zfy ht;simp only [List.length_cons] at ht2;split at h
    ·cases h
    ·rename_i l' hl';cases h;obtain ⟨g1, g2, g3⟩ := znm f _ l' hl' (by omega) (by omega);refine ⟨fun i t' hi hk => ?_, by simp only [List.length_cons]; omega, by simp⟩;rcases i with _ | i
     ·simp; exact g3
     ·simp only [List.getElem?_cons_succ] at hi;have := g1 i t' hi hk;simp only [List.length_cons];omega
theorem zqa {s : List UInt8} {l : List Tok} (h : zmh s = .ok l) : TokOK l /\ l.length <= 2001 /\ 0 < l.length := by
 unfold zmh at h;split at h
 ·cases h
 ·obtain ⟨g1, g2, g3⟩ := znm _ _ _ h (by omega) (by omega);exact ⟨⟨g1, by omega⟩, by omega, g3⟩
theorem Exp.zjL {op n u : Int} {s : List UInt8} {args : List Exp} {B : Int} (h : ∀ x ∈ args, x.lev <= B) (h0 : 0 <= B) : (Exp.mk op n u s args).lev <= B + 1 := by
 rw [Exp.zg0];simp only [Exp.args];have : ∀ (l : List Int) (a : Int), a <= B -> (∀ x ∈ l, x <= B) -> l.foldl max a <= B := by
  intro l
  induction l with
  | nil => intro a ha _; exact ha
  | cons b l ih => intro a ha hl; exact ih _ (by have := hl b (by simp); omega) fun x hx => hl x (by simp [hx])
 have := this (args.map Exp.lev) 0 h0 (fun x hx => by obtain ⟨y, hy, rfl⟩ := List.mem_map.1 hx; exact h y hy);omega
theorem zi6 {l : List Tok} : ∀ (f : Nat),
  (∀ p form e q, zej l f p form = .ok e q -> e.lev <= f * f + 1) /\
  (∀ form e own p e' q, zeO l f form e own p = .ok e' q -> e'.lev <= max e.lev (f * f + 1) + f) /\
  (∀ p form e q, zbx l f p form = .ok e q -> e.1.lev <= f * f + 1) /\
  (∀ p e q, zaX l f p = .ok e q -> e.lev <= f * f + 1)
 | 0 => ⟨fun _ _ _ _ h => by simp [zej] at h, fun _ _ _ _ _ _ h => by simp [zeO] at h, fun _ _ _ _ h => by simp [zbx] at h, fun _ _ _ h => by simp [zaX] at h⟩
 | f + 1 => by
  obtain ⟨he, hlo, hpr, hpm⟩ := zi6 f;have hsq : ((f + 1 : Nat) : Int) * ((f + 1 : Nat) : Int) = (f : Int) * f + 2 * f + 1 := by
   rw [show ((f + 1 : Nat) : Int) = (f : Int) + 1 by omega, Int.add_mul, Int.mul_add]; omega
  rw [hsq];have h0 : (0 : Int) <= (f : Int) * f := Int.mul_nonneg (by omega) (by omega);generalize hF : (f : Int) * f = F at *;refine ⟨fun p form e q h => ?_, fun form e own p e' q h => ?_, fun p form e q h => ?_, fun p e q h => ?_⟩
  ·rw [zej] at h;obtain ⟨a, r, h1, h2⟩ := PR.zaG h;have g1 := hpr _ _ _ _ h1;have g2 := hlo _ _ _ _ _ _ h2;omega
  ·rw [zeO] at h;split at h
   ·cases h; omega
   ·split at h
    ·cases h; omega
    ·obtain ⟨a, r, h1, h2⟩ := PR.zaG h;have g1 := he _ _ _ _ h1;have g2 := hlo _ _ _ _ _ _ h2;rename_i x _ _;have g3 := Exp.zjL (op := x.op) (n := 0) (u := 0) (s := []) (args := [e, a]) (B := max e.lev (F + 1)) (by
      intro y hy;simp only [List.mem_cons, List.not_mem_nil, or_false] at hy;rcases hy with rfl | rfl <;> omega) (by omega)
     omega
  ·rw [zbx] at h;split at h
   ·obtain ⟨a, r, h1, h⟩ := PR.zaG h;obtain ⟨_, r2, h2, h⟩ := PR.zaG h;obtain ⟨b, r3, h3, h⟩ := PR.zaG h;obtain ⟨_, r4, h4, h⟩ := PR.zaG h;obtain ⟨c, r5, h5, h⟩ := PR.zaG h;cases h;have g1 := he _ _ _ _ h1;have g3 := he _ _ _ _ h3;have g5 := he _ _ _ _ h5;have := Exp.zjL (op := 13) (n := 0) (u := 0) (s := []) (args := [a, b, c]) (B := F + 1) (by
     intro y hy;simp only [List.mem_cons, List.not_mem_nil, or_false] at hy;rcases hy with rfl | rfl | rfl <;> omega) (by omega)
    simp only;omega
   ·split at h
    ·obtain ⟨a, r, h1, h⟩ := PR.zaG h;cases h;have g1 := he _ _ _ _ h1;have := Exp.zjL (op := 12) (n := 0) (u := 0) (s := []) (args := [a]) (B := F + 1) (by
      intro y hy;simp only [List.mem_cons, List.not_mem_nil, or_false] at hy;rcases hy with rfl; omega) (by omega)
     simp only;omega
    ·obtain ⟨a, r, h1, h⟩ := PR.zaG h;cases h;have g1 := hpm _ _ _ h1;simp only;omega
  ·have leaf : ∀ (op n u : Int) (s : List UInt8), (Exp.mk op n u s []).lev <= F + 2 * f + 1 + 1 := fun op n u s => by
    have := Exp.zjL (op := op) (n := n) (u := u) (s := s) (args := []) (B := 0) (by simp) (by omega);omega
   rw [zaX] at h;split at h
   ·cases h
   ·split at h
    ·obtain ⟨a, r, h1, h⟩ := PR.zaG h;cases h; exact leaf ..
    split at h
    ·cases h; exact leaf ..
    split at h
    ·cases h; exact leaf ..
    split at h
    ·obtain ⟨_, r2, h2, h⟩ := PR.zaG h;obtain ⟨a, r3, h3, h⟩ := PR.zaG h;obtain ⟨_, r4, h4, h⟩ := PR.zaG h;obtain ⟨b, r5, h5, h⟩ := PR.zaG h;obtain ⟨_, r6, h6, h⟩ := PR.zaG h;have g3 := he _ _ _ _ h3;have g5 := he _ _ _ _ h5;have := Exp.zjL (op := if isB l p [109, 97, 120] = true then 7 else 6) (n := 0) (u := 0) (s := []) (args := [a, b]) (B := F + 1) (by
      intro y hy;simp only [List.mem_cons, List.not_mem_nil, or_false] at hy;rcases hy with rfl | rfl <;> omega) (by omega)
     cases h;omega
    split at h
    ·obtain ⟨a, r3, h3, h⟩ := PR.zaG h;obtain ⟨_, r4, h4, h⟩ := PR.zaG h;cases h;have g3 := he _ _ _ _ h3;omega
    split at h
    ·cases h; exact leaf ..
    ·cases h
def zrb (l : List Tok) (p : Nat) : Int := match l[p]? with | some t => t.kind | none => 0
def zgc : Exp := .mk 0 0 0 [] []
theorem zlA (l : List Tok) (p : Nat) (a b : Int) (i nx : Nat) (hi : i < nx) (hp : p < l.length) (hl : TokOK l) :
  RetX Tryz.prog 201 [.ptr i 0, zie a, zie b] [(i, pOb l p)] nx (PPost l i nx zie (zqS l p a b)) := by
 have hne := zaP hi;obtain ⟨t, ht⟩ : ∃ t, l[p]? = some t := ⟨_, List.getElem?_eq_getElem hp⟩;have hnx := zb4 l p t ht hl.len;have hll := hl.len;have hc1 := fun e nx' (h : nx <= nx') => zeL l p e i nx' (by omega);have hc2 := fun e nx' (h : nx <= nx') => zdt l p t e i nx' (by omega) ht hl.len;rw [zqS, ht];by_cases hk2 : t.kind = 2
 ·simp only [hk2, if_true];by_cases h1 : a <= t.n
  ·by_cases h2 : t.n <= b
   ·simp only [h1, h2, and_self, if_true]
    (refine RetX.of_bodyW Tryz.func201 rfl (by simp) fun Γ hn hpan => ?_); simp only [entry, ziC, ziN, maC, maN, oA, Tryz.ntmps201]
    repeat' (first
  | ((first | refine zag ?_ | refine zaj ?_ | fail); simp [hne, hk2, h1, h2, del])
  | (refine ⟨by omega, ?_⟩)
  | (refine zah ?_; simp [hne, hk2, h1, h2, del])
  | (refine zar ?_; simp only [zap])
  | (refine CallP.fE (hnx) (by first | rfl | fail) (by first | simp [hne, hk2, h1, h2, del] <;> rfl | fail) ?_; (try simp [hne, hk2, h1, h2, del]))
  | (refine CallP.ok1 (hc1 _ _ (by first | omega | simp <;> omega | fail)) (by first | (simp [hne, hk2, h1, h2, del, zaa, getK, zab, zac]; done) | fail) (by rfl) (by rfl) ?_; (try simp [hne, hk2, h1, h2, del]))
  | fail)
    (refine EndW.here ?_; (first | (refine EndOK.fin (.inr rfl) ?_) | (refine EndOK.fin (.inl rfl) ?_)); simp [zaz, zaf, Tryz.results201, hne, hi]; refine FinOK.cut [(i, pOb l (p + 1))] (nx) (by simp [zaa, getK, zab, zac, Ob.under, D.under, zad, zae, hne, hi] <;> omega) (by simp [D.under]) (by simp [hn]) ?_; try simp)
    exact PPost.zch rfl rfl rfl
   ·simp only [h1, h2, and_false, if_false]
    (refine RetX.of_bodyW Tryz.func201 rfl (by simp) fun Γ hn hpan => ?_); simp only [entry, ziC, ziN, maC, maN, oA, Tryz.ntmps201]
    repeat' (first
  | ((first | refine zag ?_ | refine zaj ?_ | refine zah ?_ | fail); simp [hne, hk2, h1, h2, del])
  | (refine CallP.fE (hnx) (by first | rfl | fail) (by first | simp [hne, hk2, h1, h2, del] <;> rfl | fail) ?_; (try simp [hne, hk2, h1, h2, del]))
  | (refine CallP.ok1 (hc1 _ _ (by first | omega | simp <;> omega | fail)) (by first | (simp [hne, hk2, h1, h2, del, zaa, getK, zab, zac]; done) | fail) (by rfl) (by rfl) ?_; (try simp [hne, hk2, h1, h2, del]))
  | (refine CallP.zeQ (hc2 _ _ (by first | omega | simp <;> omega | fail)) (by first | (simp [hne, hk2, h1, h2, del, zaa, getK, zab, zac]; done) | fail) (by rfl) (by first | assumption | (simp; done) | fail) (by rfl) (by simp) ?_; rintro ob' ⟨q', rfl⟩; refine ⟨_, Wk.refl _, ?_⟩)
  | fail)
    (refine hpan _ _ ⟨{ n := _, env := [], obs := [(i, pOb l q')], next := nx }, (Wk.cut rfl (by simp [hn]) (by simp [wkO, zaa, getK, zab, zac, Ob.under, D.under, zad, zae, hi, hne, zab, zac, zaa, getK]) (by simp [wkU, zam, zaa, getK, D.under, hi, hne, zab, zac, zaa, getK]) (by simp [wkE, zam, zaa, getK, hi, hne, zab, zac, zaa, getK])), by simp [hn], ?_⟩; try simp)
    exact PPost.zaB (by simp [PR.bind, *])
  ·simp only [h1, false_and, if_false]
   (refine RetX.of_bodyW Tryz.func201 rfl (by simp) fun Γ hn hpan => ?_); simp only [entry, ziC, ziN, maC, maN, oA, Tryz.ntmps201]
   repeat' (first
  | ((first | refine zag ?_ | refine zaj ?_ | refine zah ?_ | fail); simp [hne, hk2, h1, del])
  | (refine CallP.fE (hnx) (by first | rfl | fail) (by first | simp [hne, hk2, h1, del] <;> rfl | fail) ?_; (try simp [hne, hk2, h1, del]))
  | (refine CallP.ok1 (hc1 _ _ (by first | omega | simp <;> omega | fail)) (by first | (simp [hne, hk2, h1, del, zaa, getK, zab, zac]; done) | fail) (by rfl) (by rfl) ?_; (try simp [hne, hk2, h1, del]))
  | (refine CallP.zeQ (hc2 _ _ (by first | omega | simp <;> omega | fail)) (by first | (simp [hne, hk2, h1, del, zaa, getK, zab, zac]; done) | fail) (by rfl) (by first | assumption | (simp; done) | fail) (by rfl) (by simp) ?_; rintro ob' ⟨q', rfl⟩; refine ⟨_, Wk.refl _, ?_⟩)
  | fail)
   (refine hpan _ _ ⟨{ n := _, env := [], obs := [(i, pOb l q')], next := nx }, (Wk.cut rfl (by simp [hn]) (by simp [wkO, zaa, getK, zab, zac, Ob.under, D.under, zad, zae, hi, hne, zab, zac, zaa, getK]) (by simp [wkU, zam, zaa, getK, D.under, hi, hne, zab, zac, zaa, getK]) (by simp [wkE, zam, zaa, getK, hi, hne, zab, zac, zaa, getK])), by simp [hn], ?_⟩; try simp)
   exact PPost.zaB (by simp [PR.bind, *])
 ·simp only [hk2, if_false]
  (refine RetX.of_bodyW Tryz.func201 rfl (by simp) fun Γ hn hpan => ?_); simp only [entry, ziC, ziN, maC, maN, oA, Tryz.ntmps201]
  repeat' (first
  | ((first | refine zag ?_ | refine zaj ?_ | refine zah ?_ | fail); simp [hne, hk2, del])
  | (refine CallP.fE (hnx) (by first | rfl | fail) (by first | simp [hne, hk2, del] <;> rfl | fail) ?_; (try simp [hne, hk2, del]))
  | (refine CallP.zeQ (hc2 _ _ (by first | omega | simp <;> omega | fail)) (by first | (simp [hne, hk2, del, zaa, getK, zab, zac]; done) | fail) (by rfl) (by first | assumption | (simp; done) | fail) (by rfl) (by simp) ?_; rintro ob' ⟨q', rfl⟩; refine ⟨_, Wk.refl _, ?_⟩)
  | fail)
  (refine hpan _ _ ⟨{ n := _, env := [], obs := [(i, pOb l q')], next := nx }, (Wk.cut rfl (by simp [hn]) (by simp [wkO, zaa, getK, zab, zac, Ob.under, D.under, zad, zae, hi, hne, zab, zac, zaa, getK]) (by simp [wkU, zam, zaa, getK, D.under, hi, hne, zab, zac, zaa, getK]) (by simp [wkE, zam, zaa, getK, hi, hne, zab, zac, zaa, getK])), by simp [hn], ?_⟩; try simp)
  exact PPost.zaB (by simp [PR.bind, *])
theorem zm6 {l : List Tok} (hl : TokOK l) {p q : Nat} {a b n : Int} (h : zqS l p a b = .ok n q) : p <= q /\ q < l.length := by
 unfold zqS at h;split at h
 ·cases h
 ·rename_i t ht;split at h
  ·rename_i hk2;split at h
   ·cases h;exact ⟨by omega, hl.fin p t ht (by omega)⟩
   ·cases h
  ·cases h
theorem zdC (l : List Tok) (p : Nat) (w : List UInt8) (a b : Int) (ws : List (List UInt8)) (i nx : Nat) (hi : i < nx) (hp : p < l.length) (hl : TokOK l) (hw : ws.length <= 100) :
  RetX Tryz.prog 125 [.ptr i 0, .u (.str w), zie a, zie b, .u (.sl (ws.map fun w => [.str w]))] [(i, pOb l p)] nx (PPost l i nx zie (zdP l p w a b ws)) := by
 have hne := zaP hi;have hh1 := fun nx' (h : nx <= nx') => zbf l p w i nx' (by omega) hp hl.len;rw [zdP];cases hb : isB l p w with
 | false =>
  simp only [hb, Bool.false_eq_true, if_false] at hh1 ⊢
  (refine RetX.of_bodyW Tryz.func125 rfl (by simp) fun Γ hn hpan => ?_); simp only [entry, ziC, ziN, maC, maN, oA, Tryz.ntmps125]
  repeat' (first
  | ((first | refine zag ?_ | refine zaj ?_ | refine zah ?_ | refine zai ?_ | fail); simp [hne, del])
  | (refine zar ?_; simp only [zap])
  | (refine CallP.ok1 (hh1 _ (by first | omega | simp <;> omega | fail)) (by first | (simp [hne, del, zaa, getK, zab, zac]; done) | fail) (by rfl) (by rfl) ?_; (try simp [hne, del]))
  | fail)
  (refine EndW.here ?_; (first | (refine EndOK.fin (.inr rfl) ?_) | (refine EndOK.fin (.inl rfl) ?_)); simp [zaz, zaf, Tryz.results125, hne, hi]; refine FinOK.cut [(i, pOb l p)] (nx) (by simp [zaa, getK, zab, zac, Ob.under, D.under, zad, zae, hne, hi] <;> omega) (by simp [D.under]) (by simp [hn]) ?_; try simp)
  exact PPost.zch rfl rfl rfl
 | true =>
  have hp2 := zba hl hb;simp only [hb, if_true] at hh1 ⊢;have hn1 := fun nx' (h : nx <= nx') => zlA l (p + 1) a b i nx' (by omega) hp2 hl;cases hr0 : zqS l (p + 1) a b with
  | stop pos e =>
   simp only [hr0] at hn1
   (refine RetX.of_bodyW Tryz.func125 rfl (by simp) fun Γ hn hpan => ?_); simp only [entry, ziC, ziN, maC, maN, oA, Tryz.ntmps125]
   repeat' (first
  | ((first | refine zag ?_ | refine zaj ?_ | refine zah ?_ | refine zai ?_ | fail); simp [hne, del])
  | (refine zaq ?_; simp only [zap])
  | (refine CallP.ok1 (hh1 _ (by first | omega | simp <;> omega | fail)) (by first | (simp [hne, del, zaa, getK, zab, zac]; done) | fail) (by rfl) (by rfl) ?_; (try simp [hne, del]))
  | (refine CallP.zeQ (hn1 _ (by first | omega | simp <;> omega | fail)) (by first | (simp [hne, del, zaa, getK, zab, zac]; done) | fail) (by rfl) (by first | assumption | (simp; done) | fail) (by rfl) (by simp) ?_; rintro ob' ⟨q', rfl⟩; refine ⟨_, Wk.refl _, ?_⟩)
  | fail)
   (refine hpan _ _ ⟨{ n := _, env := [], obs := [(i, pOb l q')], next := nx }, (Wk.cut rfl (by simp [hn]) (by simp [wkO, zaa, getK, zab, zac, Ob.under, D.under, zad, zae, hi, hne, zab, zac, zaa, getK]) (by simp [wkU, zam, zaa, getK, D.under, hi, hne, zab, zac, zaa, getK]) (by simp [wkE, zam, zaa, getK, hi, hne, zab, zac, zaa, getK])), by simp [hn], ?_⟩; try simp)
   exact PPost.zaB (by simp [PR.bind, *])
  | ok n q0 =>
   simp only [hr0] at hn1;obtain ⟨g0a, g0b⟩ := zm6 hl hr0;have hw1 := fun nx' (h : nx <= nx') => zhP l q0 ws i nx' (by omega) g0b hl hw;cases hr1 : zbL l q0 ws with
   | stop pos e =>
    simp only [hr1] at hw1
    (refine RetX.of_bodyW Tryz.func125 rfl (by simp) fun Γ hn hpan => ?_); simp only [entry, ziC, ziN, maC, maN, oA, Tryz.ntmps125]
    repeat' (first
  | ((first | refine zag ?_ | refine zaj ?_ | refine zah ?_ | refine zai ?_ | fail); simp [hne, del])
  | (refine zaq ?_; simp only [zap])
  | (refine CallP.ok1 (hh1 _ (by first | omega | simp <;> omega | fail)) (by first | (simp [hne, del, zaa, getK, zab, zac]; done) | fail) (by rfl) (by rfl) ?_; (try simp [hne, del]))
  | (refine CallP.ok1 (hn1 _ (by first | omega | simp <;> omega | fail)) (by first | (simp [hne, del, zaa, getK, zab, zac]; done) | fail) (by rfl) (by rfl) ?_; (try simp [hne, del]))
  | (refine CallP.zeQ (hw1 _ (by first | omega | simp <;> omega | fail)) (by first | (simp [hne, del, zaa, getK, zab, zac]; done) | fail) (by rfl) (by first | assumption | (simp; done) | fail) (by rfl) (by simp) ?_; rintro ob' ⟨q', rfl⟩; refine ⟨_, Wk.refl _, ?_⟩)
  | fail)
    (refine hpan _ _ ⟨{ n := _, env := [], obs := [(i, pOb l q')], next := nx }, (Wk.cut rfl (by simp [hn]) (by simp [wkO, zaa, getK, zab, zac, Ob.under, D.under, zad, zae, hi, hne, zab, zac, zaa, getK]) (by simp [wkU, zam, zaa, getK, D.under, hi, hne, zab, zac, zaa, getK]) (by simp [wkE, zam, zaa, getK, hi, hne, zab, zac, zaa, getK])), by simp [hn], ?_⟩; try simp)
    exact PPost.zaB (by simp [PR.bind, *])
   | ok u q =>
    simp only [hr1] at hw1
    (refine RetX.of_bodyW Tryz.func125 rfl (by simp) fun Γ hn hpan => ?_); simp only [entry, ziC, ziN, maC, maN, oA, Tryz.ntmps125]
    repeat' (first
  | ((first | refine zag ?_ | refine zaj ?_ | refine zah ?_ | refine zai ?_ | fail); simp [hne, del])
  | ((first | refine zar ?_ | refine zaq ?_ | fail); simp only [zap])
  | (refine CallP.ok1 (hh1 _ (by first | omega | simp <;> omega | fail)) (by first | (simp [hne, del, zaa, getK, zab, zac]; done) | fail) (by rfl) (by rfl) ?_; (try simp [hne, del]))
  | (refine CallP.ok1 (hn1 _ (by first | omega | simp <;> omega | fail)) (by first | (simp [hne, del, zaa, getK, zab, zac]; done) | fail) (by rfl) (by rfl) ?_; (try simp [hne, del]))
  | (refine CallP.ok1 (hw1 _ (by first | omega | simp <;> omega | fail)) (by first | (simp [hne, del, zaa, getK, zab, zac]; done) | fail) (by rfl) (by rfl) ?_; (try simp [hne, del]))
  | fail)
    (refine EndW.here ?_; (first | (refine EndOK.fin (.inr rfl) ?_) | (refine EndOK.fin (.inl rfl) ?_)); simp [zaz, zaf, Tryz.results125, hne, hi]; refine FinOK.cut [(i, pOb l q)] (nx) (by simp [zaa, getK, zab, zac, Ob.under, D.under, zad, zae, hne, hi] <;> omega) (by simp [D.under]) (by simp [hn]) ?_; try simp)
    exact PPost.zch (by simp [PR.bind, *]) rfl rfl
theorem zdD {l : List Tok} (hl : TokOK l) {p q : Nat} {w : List UInt8} {a b n : Int} {ws : List (List UInt8)} (h : zdP l p w a b ws = .ok n q) (hp : p < l.length) : p <= q /\ q < l.length := by
 unfold zdP at h;split at h
 ·obtain ⟨m, r, h1, h⟩ := PR.zaG h;have g1 := zm6 hl h1;obtain ⟨m2, r2, h2, h⟩ := PR.zaG h;have g2 := zaW hl _ h2 g1.2;cases h;exact ⟨by omega, g2.2⟩
 ·cases h; exact ⟨by omega, hp⟩
theorem zge (l : List Tok) (p : Nat) (i nx : Nat) (hi : i < nx) (hp : p < l.length) (hl : TokOK l) (hl2 : l.length <= 2001) :
  RetX Tryz.prog 130 [.ptr i 0] [(i, pOb l p)] nx (PPost l i nx zeh (zef l p)) := by
 have hne := zaP hi;have hll := hl.len;rw [zef];have hE := fun nx' (h : nx <= nx') => (zmY hl (4 * l.length + 3)).1 p 0 i nx' (by omega) hp (by omega) (by omega) (by omega);cases hr : zej l (4 * l.length + 3) p 0 with
 | stop pos e =>
  simp only [hr] at hE
  (refine RetX.of_bodyW Tryz.func130 rfl (by simp) fun Γ hn hpan => ?_); simp only [entry, ziC, ziN, maC, maN, oA, Tryz.ntmps130]
  repeat' (first
  | ((first | refine zag ?_ | refine zaj ?_ | refine zah ?_ | fail); simp [hne, del])
  | (refine CallP.zeQ (hE _ (by first | omega | simp <;> omega | fail)) (by first | (simp [hne, del, zaa, getK, zab, zac]; done) | fail) (by rfl) (by first | assumption | (simp; done) | fail) (by rfl) (by simp) ?_; rintro ob' ⟨q', rfl⟩; refine ⟨_, Wk.refl _, ?_⟩)
  | fail)
  (refine hpan _ _ ⟨{ n := _, env := [], obs := [(i, pOb l q')], next := nx }, (Wk.cut rfl (by simp [hn]) (by simp [wkO, zaa, getK, zab, zac, Ob.under, D.under, zad, zae, hi, hne, zab, zac, zaa, getK]) (by simp [wkU, zam, zaa, getK, D.under, hi, hne, zab, zac, zaa, getK]) (by simp [wkE, zam, zaa, getK, hi, hne, zab, zac, zaa, getK])), by simp [hn], ?_⟩; try simp)
  exact PPost.zaB (by simp [PR.bind, *])
 | ok y q =>
  have hEx := fun nx' h => zds (hE nx' h) hr;obtain ⟨g0a, g0b⟩ := (zcm hl _).1 _ _ _ _ hr hp;have hlev := (zi6 (l := l) _).1 _ _ _ _ hr;have hlev2 : y.lev <= 1000000000 := by
   have h1 : ((4 * l.length + 3 : Nat) : Int) * ((4 * l.length + 3 : Nat) : Int) <= 8007 * 8007 := Int.mul_le_mul (by omega) (by omega) (by omega) (by omega);omega
  have hlv := zlH (SizeOf.sizeOf y) y (Nat.le_refl _) hlev2;rw [Exp.row_eq] at hlv;obtain ⟨t, ht⟩ : ∃ t, l[q]? = some t := ⟨_, List.getElem?_eq_getElem g0b⟩;have his := zeg l q [59] g0b hl.len;have hpa : zdo l q = t.pos := by unfold zdo; rw [ht]
  have hc1 := fun e nx' (h : nx <= nx') => zeL l q e i nx' (by omega);have hc2 := fun e nx' (h : nx <= nx') => zdt l q t e i nx' (by omega) ht hl.len;rw [PR.bind_ok, hpa];cases hb : isB l q [59] with
  | false =>
   simp only [hb, Bool.false_eq_true, if_false] at his ⊢
   (refine RetX.of_bodyW Tryz.func130 rfl (by simp) fun Γ hn hpan => ?_); simp only [entry, ziC, ziN, maC, maN, oA, Tryz.ntmps130]
   repeat' (first
  | ((first | refine zag ?_ | refine zaj ?_ | refine zah ?_ | fail); simp [hne, del])
  | (refine CallP.fE (his) (by first | rfl | fail) (by first | simp [hne, del] <;> rfl | fail) ?_; (try simp [hne, del]))
  | (refine CallP.ok1 (hEx _ (by first | omega | simp <;> omega | fail)) (by first | (simp [hne, del, zaa, getK, zab, zac]; done) | fail) (by rfl) (by rfl) ?_; (try simp [hne, del]))
  | (refine CallP.zeQ (hc2 _ _ (by first | omega | simp <;> omega | fail)) (by first | (simp [hne, del, zaa, getK, zab, zac]; done) | fail) (by rfl) (by first | assumption | (simp; done) | fail) (by rfl) (by simp) ?_; rintro ob' ⟨q', rfl⟩; refine ⟨_, Wk.refl _, ?_⟩)
  | fail)
   (refine hpan _ _ ⟨{ n := _, env := [], obs := [(i, pOb l q')], next := nx }, (Wk.cut rfl (by simp [hn]) (by simp [wkO, zaa, getK, zab, zac, Ob.under, D.under, zad, zae, hi, hne, zab, zac, zaa, getK]) (by simp [wkU, zam, zaa, getK, D.under, hi, hne, zab, zac, zaa, getK]) (by simp [wkE, zam, zaa, getK, hi, hne, zab, zac, zaa, getK])), by simp [hn], ?_⟩; try simp)
   exact PPost.zaB (by simp [PR.bind, *])
  | true =>
   have hq2 := zba hl hb;simp only [hb, if_true] at his ⊢;by_cases hv : y.lev <= 12
   ·simp only [hv, if_true]
    (refine RetX.of_bodyW Tryz.func130 rfl (by simp) fun Γ hn hpan => ?_); simp only [entry, ziC, ziN, maC, maN, oA, Tryz.ntmps130]
    repeat' (first
  | ((first | refine zag ?_ | refine zaj ?_ | fail); simp [hne, del, hv])
  | (refine ⟨by omega, ?_⟩)
  | (refine zah ?_; simp [hne, del, hv])
  | (refine zar ?_; simp only [zap])
  | (refine CallP.fE (his) (by first | rfl | fail) (by first | simp [hne, del, hv] <;> rfl | fail) ?_; (try simp [hne, del, hv]))
  | (refine CallP.fE (hlv) (by first | rfl | fail) (by first | simp [hne, del, hv] <;> rfl | fail) ?_; (try simp [hne, del, hv]))
  | (refine CallP.ok1 (hEx _ (by first | omega | simp <;> omega | fail)) (by first | (simp [hne, del, hv, zaa, getK, zab, zac]; done) | fail) (by rfl) (by rfl) ?_; (try simp [hne, del, hv]))
  | (refine CallP.ok1 (hc1 _ _ (by first | omega | simp <;> omega | fail)) (by first | (simp [hne, del, hv, zaa, getK, zab, zac]; done) | fail) (by rfl) (by rfl) ?_; (try simp [hne, del, hv]))
  | fail)
    refine EndW.norm ?_;simp [St.norm, za9, zbG, zb1, zbV, hne, nAA]
    (refine EndW.here ?_; (first | (refine EndOK.fin (.inr rfl) ?_) | (refine EndOK.fin (.inl rfl) ?_)); simp [zaz, zaf, Tryz.results130, hne, hi]; refine FinOK.cut [(i, pOb l (q + 1))] (nx) (by simp [zaa, getK, zab, zac, Ob.under, D.under, zad, zae, hne, hi] <;> omega) (by simp [D.under]) (by simp [hn]) ?_; try simp)
    exact PPost.zch rfl (by simp [Exp.row_eq]) rfl
   ·simp only [hv, if_false]
    (refine RetX.of_bodyW Tryz.func130 rfl (by simp) fun Γ hn hpan => ?_); simp only [entry, ziC, ziN, maC, maN, oA, Tryz.ntmps130]
    repeat' (first
  | ((first | refine zag ?_ | refine zaj ?_ | refine zah ?_ | fail); simp [hne, del, hv])
  | (refine CallP.fE (his) (by first | rfl | fail) (by first | simp [hne, del, hv] <;> rfl | fail) ?_; (try simp [hne, del, hv]))
  | (refine CallP.fE (hlv) (by first | rfl | fail) (by first | simp [hne, del, hv] <;> rfl | fail) ?_; (try simp [hne, del, hv]))
  | (refine CallP.ok1 (hEx _ (by first | omega | simp <;> omega | fail)) (by first | (simp [hne, del, hv, zaa, getK, zab, zac]; done) | fail) (by rfl) (by rfl) ?_; (try simp [hne, del, hv]))
  | (refine CallP.ok1 (hc1 _ _ (by first | omega | simp <;> omega | fail)) (by first | (simp [hne, del, hv, zaa, getK, zab, zac]; done) | fail) (by rfl) (by rfl) ?_; (try simp [hne, del, hv]))
  | (refine CallP.zeQ (hc2 _ _ (by first | omega | simp <;> omega | fail)) (by first | (simp [hne, del, hv, zaa, getK, zab, zac]; done) | fail) (by rfl) (by first | assumption | (simp; done) | fail) (by rfl) (by simp) ?_; rintro ob' ⟨q', rfl⟩; refine ⟨_, Wk.refl _, ?_⟩)
  | fail)
    (refine hpan _ _ ⟨{ n := _, env := [], obs := [(i, pOb l q')], next := nx }, (Wk.cut rfl (by simp [hn]) (by simp [wkO, zaa, getK, zab, zac, Ob.under, D.under, zad, zae, hi, hne, zab, zac, zaa, getK]) (by simp [wkU, zam, zaa, getK, D.under, hi, hne, zab, zac, zaa, getK]) (by simp [wkE, zam, zaa, getK, hi, hne, zab, zac, zaa, getK])), by simp [hn], ?_⟩; try simp)
    exact PPost.zaB (by simp [PR.bind, *])
theorem zgg {l : List Tok} (hl : TokOK l) {p q : Nat} {e : Exp} (h : zef l p = .ok e q) (hp : p < l.length) : p <= q /\ q < l.length := by
 unfold zef at h;obtain ⟨y, r, h1, h⟩ := PR.zaG h;have g1 := (zcm hl _).1 _ _ _ _ h1 hp;split at h
 ·rename_i hb;split at h
  ·cases h;exact ⟨by omega, zba hl hb⟩
  ·cases h
 ·cases h
theorem zj6 : Fun Tryz.prog 72 [] (· = .u (.agg nothingE.row)) := by
 simp only [nothingE, Exp.row, List.map_nil]
 (refine Fun.of_bodyW Tryz.func72 rfl (by simp) fun Γ hn => ?_); simp only [entry, ziC, ziN, maC, maN, oA, Tryz.ntmps72]
 repeat' (first
  | ((first | refine zag ?_ | refine zaj ?_ | refine zah ?_ | fail); simp)
  | (refine zar ?_; simp only [zap])
  | fail)
 refine EndW.norm ?_;simp [St.norm, za9, zbG, zb1, zbV];refine EndW.here ?_
 (refine EndOK.val (.inr rfl) ?_; simp [zaz, zaf, zas, Tryz.results72])
theorem zeJ (l : List Tok) (p : Nat) (w : List UInt8) (i nx : Nat) (hi : i < nx) (hp : p < l.length) (hl : TokOK l) (hl2 : l.length <= 2001) :
  RetX Tryz.prog 131 [.ptr i 0, .u (.str w)] [(i, pOb l p)] nx (PPost l i nx zeh (zdK l p w)) := by
 have hne := zaP hi;have hh1 := fun nx' (h : nx <= nx') => zbf l p w i nx' (by omega) hp hl.len;rw [zdK];cases hb : isB l p w with
 | false =>
  have h0 := zj6;simp only [nothingE, Exp.row, List.map_nil] at h0;simp only [hb, Bool.false_eq_true, if_false] at hh1 ⊢
  (refine RetX.of_bodyW Tryz.func131 rfl (by simp) fun Γ hn hpan => ?_); simp only [entry, ziC, ziN, maC, maN, oA, Tryz.ntmps131]
  repeat' (first
  | ((first | refine zag ?_ | refine zaj ?_ | refine zah ?_ | refine zai ?_ | fail); simp [hne, del])
  | ((first | refine zar ?_ | refine zaq ?_ | fail); simp only [zap])
  | (refine CallP.fE (h0) (by first | rfl | fail) (by first | simp [hne, del] <;> rfl | fail) ?_; (try simp [hne, del]))
  | (refine CallP.ok1 (hh1 _ (by first | omega | simp <;> omega | fail)) (by first | (simp [hne, del, zaa, getK, zab, zac]; done) | fail) (by rfl) (by rfl) ?_; (try simp [hne, del]))
  | fail)
  refine EndW.norm ?_;simp [St.norm, za9, zbG, zb1, zbV, hne, nAA]
  (refine EndW.here ?_; (first | (refine EndOK.fin (.inr rfl) ?_) | (refine EndOK.fin (.inl rfl) ?_)); simp [zaz, zaf, Tryz.results131, hne, hi]; refine FinOK.cut [(i, pOb l p)] (nx) (by simp [zaa, getK, zab, zac, Ob.under, D.under, zad, zae, hne, hi] <;> omega) (by simp [D.under]) (by simp [hn]) ?_; try simp)
  exact PPost.zch rfl (by simp [nothingE, Exp.row]) rfl
 | true =>
  have hp2 := zba hl hb;simp only [hb, if_true] at hh1 ⊢;have hn1 := fun nx' (h : nx <= nx') => zge l (p + 1) i nx' (by omega) hp2 hl hl2;cases hr0 : zef l (p + 1) with
  | stop pos e =>
   simp only [hr0] at hn1
   (refine RetX.of_bodyW Tryz.func131 rfl (by simp) fun Γ hn hpan => ?_); simp only [entry, ziC, ziN, maC, maN, oA, Tryz.ntmps131]
   repeat' (first
  | ((first | refine zag ?_ | refine zaj ?_ | refine zah ?_ | refine zai ?_ | fail); simp [hne, del])
  | (refine CallP.ok1 (hh1 _ (by first | omega | simp <;> omega | fail)) (by first | (simp [hne, del, zaa, getK, zab, zac]; done) | fail) (by rfl) (by rfl) ?_; (try simp [hne, del]))
  | (refine CallP.zeQ (hn1 _ (by first | omega | simp <;> omega | fail)) (by first | (simp [hne, del, zaa, getK, zab, zac]; done) | fail) (by rfl) (by first | assumption | (simp; done) | fail) (by rfl) (by simp) ?_; rintro ob' ⟨q', rfl⟩; refine ⟨_, Wk.refl _, ?_⟩)
  | fail)
   (refine hpan _ _ ⟨{ n := _, env := [], obs := [(i, pOb l q')], next := nx }, (Wk.cut rfl (by simp [hn]) (by simp [wkO, zaa, getK, zab, zac, Ob.under, D.under, zad, zae, hi, hne, zab, zac, zaa, getK]) (by simp [wkU, zam, zaa, getK, D.under, hi, hne, zab, zac, zaa, getK]) (by simp [wkE, zam, zaa, getK, hi, hne, zab, zac, zaa, getK])), by simp [hn], ?_⟩; try simp)
   exact PPost.zaB (by simp [PR.bind, *])
  | ok n q0 =>
   have hn1 := fun nx' h => zds (hn1 nx' h) hr0
   (refine RetX.of_bodyW Tryz.func131 rfl (by simp) fun Γ hn hpan => ?_); simp only [entry, ziC, ziN, maC, maN, oA, Tryz.ntmps131]
   repeat' (first
  | ((first | refine zag ?_ | refine zaj ?_ | refine zah ?_ | refine zai ?_ | fail); simp [hne, del])
  | (refine zar ?_; simp only [zap])
  | (refine CallP.ok1 (hh1 _ (by first | omega | simp <;> omega | fail)) (by first | (simp [hne, del, zaa, getK, zab, zac]; done) | fail) (by rfl) (by rfl) ?_; (try simp [hne, del]))
  | (refine CallP.ok1 (hn1 _ (by first | omega | simp <;> omega | fail)) (by first | (simp [hne, del, zaa, getK, zab, zac]; done) | fail) (by rfl) (by rfl) ?_; (try simp [hne, del]))
  | fail)
   refine EndW.norm ?_;simp [St.norm, za9, zbG, zb1, zbV, hne, nAA]
   (refine EndW.here ?_; (first | (refine EndOK.fin (.inr rfl) ?_) | (refine EndOK.fin (.inl rfl) ?_)); simp [zaz, zaf, Tryz.results131, hne, hi]; refine FinOK.cut [(i, pOb l q0)] (nx) (by simp [zaa, getK, zab, zac, Ob.under, D.under, zad, zae, hne, hi] <;> omega) (by simp [D.under]) (by simp [hn]) ?_; try simp)
   exact PPost.zch rfl (by simp [Exp.row_eq]) rfl
theorem zeK {l : List Tok} (hl : TokOK l) {p q : Nat} {w : List UInt8} {e : Exp} (h : zdK l p w = .ok e q) (hp : p < l.length) : p <= q /\ q < l.length := by
 unfold zdK at h;split at h
 ·rename_i hb;have := zgg hl h (zba hl hb);exact ⟨by omega, this.2⟩
 ·cases h; exact ⟨by omega, hp⟩
end Go.Proofs.YtepiegcjnaohjaaGreatDoor
