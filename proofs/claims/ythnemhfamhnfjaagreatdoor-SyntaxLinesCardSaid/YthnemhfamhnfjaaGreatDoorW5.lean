import Derived.Test.YthnemhfamhnfjaaGreatDoorW4
set_option linter.all false
set_option maxRecDepth 100000
set_option maxHeartbeats 8000000
namespace Go.Proofs.YthnemhfamhnfjaaGreatDoor
open Go Go.VL
attribute [local simp] HS zc2 zck evPure opd uOf zaH St.put St.at getK binD binI binS binB nilD aggD zhr zh0 lookD lookR zcz Go.VL.nextD zcC ziz zia zgs zcu mkV zdn zbo zby mapEff zeb zgf Key.kk shiftI arith unD convD zdO loadD cellsAt fieldAddrD fieldD indexAddrD indexD sliceD cutD lenD minmaxD nilCheckD buildD fillD zbR zdd zeM setAll zcK zeS zcq zhB zcn St.add zaQ zbI rowsOf zdJ zcD zak zac zaa zbn zdb zba entry zbK zbT valD zb3 zcx zhn zdl zdm zbU zbM zav zaX zbr delAll effD St.effS zc8 zbg za5 zda zbh za7 zcc za6 zaW zcd zcX zbD zb7 zbp zb5 zb6 zaJ mkD zbV zbB zbL zav zco D.ids Op.operands Call.operands zbG makeIfD makeFuncD typeAssertD zhZ zdx zdy zhD zcA IntKind.bits zcL List.take_of_length_le List.range_succ
attribute [local irreducible] V G H HD HD2 HD4 zkz RetX zao Eff CallP CallV EndOK Fun Ret FinOK LoopI LoopW EndW
theorem znx (s : List UInt8) (l : List Tok) (nx : Nat) (h : zkw s = .ok l) :
  RetX Tryz.prog 34 [.u (.str s)] [] nx (fun r o n => r = .val (.tup [.ptr nx 0, .u (.int .i64 0), .u (.int .i64 0)]) /\ o = [(nx, pOb l 0)] /\ n = nx + 1) := by
 have h1 := znM s;rw [h] at h1;simp only [zhQ] at h1
 (refine RetX.of_bodyW Tryz.func34 rfl (by simp) fun Γ hn hpan => ?_); simp only [entry, ziC, ziN, maC, maN, oA, Tryz.ntmps34]
 repeat' (first
  | ((first | refine zae ?_ | refine zaj ?_ | refine zah ?_ | fail); simp)
  | (refine zaq ?_; simp only [zao])
  | (refine CallP.fE (h1) (by first | rfl | fail) (by first | (simp; done) | (simp; rfl) | fail) ?_; (try simp))
  | fail)
 (refine EndW.here ?_; (first | (refine EndOK.fin (.inr rfl) ?_) | (refine EndOK.fin (.inl rfl) ?_)); simp [zaG, zaf, Tryz.results34]; refine FinOK.here (by simp) ?_; try simp)
theorem zle (s : List UInt8) (p : Nat) (e : Int) (nx : Nat) (h : zkw s = .error (p, e)) :
  RetX Tryz.prog 34 [.u (.str s)] [] nx (fun r o n => r = .val (.tup [.ptr nx 0, .u (.int .i64 p), .u (.int .i64 e)]) /\ o = [(nx, pOb [] 0)] /\ n = nx + 1) := by
 have h1 := znM s;rw [h] at h1;simp only [zhQ] at h1
 (refine RetX.of_bodyW Tryz.func34 rfl (by simp) fun Γ hn hpan => ?_); simp only [entry, ziC, ziN, maC, maN, oA, Tryz.ntmps34]
 repeat' (first
  | ((first | refine zae ?_ | refine zaj ?_ | refine zah ?_ | fail); simp)
  | (refine zaq ?_; simp only [zao])
  | (refine CallP.fE (h1) (by first | rfl | fail) (by first | (simp; done) | (simp; rfl) | fail) ?_; (try simp))
  | fail)
 (refine EndW.here ?_; (first | (refine EndOK.fin (.inr rfl) ?_) | (refine EndOK.fin (.inl rfl) ?_)); simp [zaG, zaf, Tryz.results34]; refine FinOK.here (by simp) ?_; try simp)
theorem zhl (i j nx : Nat) (hi : i < nx) (hj : j < nx) (hij : i ≠ j) (p e : Int) :
  RetX Tryz.prog 36 [.u (.oth .nilIface), .ptr i 0, .ptr j 0] [(i, .box [.u (.int .i64 p)]), (j, .box [.u (.int .i64 e)])] nx
   (fun r o n => r = .val (.u (.bool false)) /\ o = [(i, .box [.u (.int .i64 p)]), (j, .box [.u (.int .i64 e)])] /\ n = nx) := by
 have hne := zaB hi;have hne2 := zaB hj
 (refine RetX.of_bodyW Tryz.func36 rfl (by simp) fun Γ hn hpan => ?_); simp only [entry, ziC, ziN, maC, maN, oA, Tryz.ntmps36]
 repeat' (first
  | ((first | refine zae ?_ | refine zaj ?_ | refine zah ?_ | fail); simp [hne, hne2, hij, Ne.symm hij])
  | fail)
 refine ⟨[.int .i64 0, .int .i64 0], rfl, ?_⟩
 repeat' (first
  | ((first | refine zae ?_ | refine zaj ?_ | refine zah ?_ | refine zai ?_ | fail); simp [hne, hne2, hij, Ne.symm hij])
  | ((first | refine zaq ?_ | refine zap ?_ | fail); simp only [zao])
  | fail)
 (refine EndW.here ?_; (first | (refine EndOK.fin (.inr rfl) ?_) | (refine EndOK.fin (.inl rfl) ?_)); simp [zaG, zaf, Tryz.results36, hne, hne2, hij, Ne.symm hij, hi, hj]; refine FinOK.cut [(i, .box [.u (.int .i64 p)]), (j, .box [.u (.int .i64 e)])] (nx) (by simp [zaa, getK, zab, zac, Ob.under, D.under, zad, zag, hne, hne2, hij, Ne.symm hij, hi, hj] <;> omega) (by simp [D.under]) (by simp [hn]) ?_; try simp)
theorem zhk (i j nx : Nat) (hi : i < nx) (hj : j < nx) (hij : i ≠ j) (p e pos err : Int) :
  RetX Tryz.prog 36 [.u (.oth (.iface 105 (.agg #[.int .i64 pos, .int .i64 err]))), .ptr i 0, .ptr j 0] [(i, .box [.u (.int .i64 p)]), (j, .box [.u (.int .i64 e)])] nx
   (fun r o n => r = .val (.u (.bool true)) /\ o = [(i, .box [.u (.int .i64 pos)]), (j, .box [.u (.int .i64 err)])] /\ n = nx) := by
 have hne := zaB hi;have hne2 := zaB hj
 (refine RetX.of_bodyW Tryz.func36 rfl (by simp) fun Γ hn hpan => ?_); simp only [entry, ziC, ziN, maC, maN, oA, Tryz.ntmps36]
 repeat' (first
  | ((first | refine zae ?_ | refine zaU rfl ?_ | refine zbJ rfl ?_ | refine zaj ?_ | refine zah ?_ | refine zai ?_ | fail); simp [hne, hne2, hij, Ne.symm hij])
  | (refine za8 (hC _ (zcf [i, j] nx (by simp <;> omega) (by simp <;> omega) (by apply Exists.intro; apply And.intro; (focus (repeat' (first | exact KF.nil | exact KL.nil | apply KF.cons | apply KL.cons 0 rfl | apply KL.cons 1 rfl | apply KL.cons 2 rfl | apply KL.cons 3 rfl | apply KL.cons 4 rfl | apply KL.cons 5 rfl | apply KL.cons 6 rfl | apply KL.cons 7 rfl | apply KL.cons 8 rfl | apply KL.cons 9 rfl))); kernel_rfl))) (hk _ ?_); clear hC hk C k; simp only [zao])
  | (refine za9 rfl (by kernel_rfl) (by first | (simp [hn]; done) | (simp [hn]; omega) | fail) fun C k hC hk => ?_; simp [hne, hne2, hij, Ne.symm hij])
  | ((first | refine zaq ?_ | refine zap ?_ | fail); simp only [zao])
  | fail)
 (refine EndW.here ?_; (first | (refine EndOK.fin (.inr rfl) ?_) | (refine EndOK.fin (.inl rfl) ?_)); simp [zaG, zaf, Tryz.results36, hne, hne2, hij, Ne.symm hij, hi, hj]; refine FinOK.cut [(i, .box [.u (.int .i64 pos)]), (j, .box [.u (.int .i64 err)])] (nx) (by simp [zaa, getK, zab, zac, Ob.under, D.under, zad, zag, hne, hne2, hij, Ne.symm hij, hi, hj] <;> omega) (by simp [D.under]) (by simp [hn]) ?_; try simp)
theorem zoV (i j q nx : Nat) (hi : i < nx) (hj : j < nx) (hq : q < nx) (hij : i ≠ j) (hiq : i ≠ q) (hjq : j ≠ q) (p e : Int) (cells : List U) :
  RetDf Tryz.prog 40 [.ptr i 0, .ptr j 0, .ptr q 0] [(i, .box [.u (.int .i64 p)]), (j, .box [.u (.int .i64 e)]), (q, .box (cells.map .u))] nx .returning
   (fun u o n => settle u = .returning /\ n = nx /\ o = [(i, .box [.u (.int .i64 p)]), (j, .box [.u (.int .i64 e)]), (q, .box (cells.map .u))]) := by
 have hne := zaB hi;have hne2 := zaB hj;have hne3 := zaB hq;have hc0 := zhl i j nx hi hj hij p e;refine RetDf.of_body Tryz.func40 rfl (by simp) (by simp) rfl fun Γ hn => ?_;simp [entry, zkE, Tryz.ntmps40];refine CallP.x2 hc0 (by simp [getK]) (by simp [getK, hij, Ne.symm hij]) hij rfl rfl (by simp) (by simp) (fun d o1 nx' hnx h => ?_) (fun ch o1 nx' hnx h => by cases h.1);obtain ⟨h1, rfl, h4⟩ := h;have h4 := h4.symm;subst h4;cases h1;simp [del, hij, Ne.symm hij, hiq, hjq, Ne.symm hiq, Ne.symm hjq]
 repeat' (first
  | (refine zai ?_; simp [hij, hiq, hjq])
  | (refine zap ?_; simp only [zao])
  | fail)
 (refine ⟨by simp, { n := _, env := [], obs := [(i, .box [.u (.int .i64 p)]), (j, .box [.u (.int .i64 e)]), (q, .box (cells.map .u))], next := nx }, (Wk.cut rfl (by simp [hn]) (by simp [wkO, zaa, getK, zab, zac, Ob.under, D.under, zad, zag, hi, hj, hq, hne, hne2, hne3, hij, hiq, hjq, Ne.symm hij, Ne.symm hiq, Ne.symm hjq]) (by simp [wkU, zan, zaa, getK, D.under, hi, hj, hq, hne, hne2, hne3, hij, hiq, hjq, Ne.symm hij, Ne.symm hiq, Ne.symm hjq]) (by simp [wkE, zan, zaa, getK, hi, hj, hq, hne, hne2, hne3, hij, hiq, hjq, Ne.symm hij, Ne.symm hiq, Ne.symm hjq])), by simp [hn], ?_⟩; try simp)
 all_goals rfl
end Go.Proofs.YthnemhfamhnfjaaGreatDoor
namespace Go.Proofs.YthnemhfamhnfjaaGreatDoor
open Go Go.VL
theorem zkG {l : List Tok} (hl : TokOK l) {f p : Nat} (hE : zgl l f) (hf : 4 * (l.length - p) <= f) {t : Tok} (ht : l[p]? = some t) (hk : ¬ t.kind = 2) (h1 : isB l p [116, 114, 117, 101] = false) (h2 : isB l p [102, 97, 108, 115, 101] = false)
  (h3 : isB l p [109, 105, 110] = true) (h4 : isB l p [109, 97, 120] = false) {i nx : Nat} (hi : i < nx) :
  RetX Tryz.prog 133 [.ptr i 0] [(i, pOb l p)] nx (PPost l i nx zee (zaL l (f + 1) p)) := zhH hl hE hf ht hk h1 h2 (.inr ⟨h3, h4⟩) hi
end Go.Proofs.YthnemhfamhnfjaaGreatDoor
namespace Go.Proofs.YthnemhfamhnfjaaGreatDoor
open Go Go.VL
attribute [local simp] HS zc2 zck evPure opd uOf zaH St.put St.at getK binD binI binS binB nilD aggD zhr zh0 lookD lookR zcz Go.VL.nextD zcC ziz zia zgs zcu mkV zdn zbo zby mapEff zeb zgf Key.kk shiftI arith unD convD zdO loadD cellsAt fieldAddrD fieldD indexAddrD indexD sliceD cutD lenD minmaxD nilCheckD buildD fillD zbR zdd zeM setAll zcK zeS zcq zhB zcn St.add zaQ zbI rowsOf zdJ zcD zak zac zaa zbn zdb zba entry zbK zbT valD zb3 zcx zhn zdl zdm zbU zbM zav zaX zbr delAll effD St.effS zc8 zbg za5 zda zbh za7 zcc za6 zaW zcd zcX zbD zb7 zbp zb5 zb6 zaJ mkD zbV zbB zbL zav zco D.ids Op.operands Call.operands zbG makeIfD makeFuncD typeAssertD zhZ zdx zdy zhD zcA IntKind.bits zcL List.take_of_length_le List.range_succ
attribute [local irreducible] V G H HD HD2 HD4 zkz RetX zao Eff CallP CallV EndOK Fun Ret FinOK LoopI LoopW EndW
theorem zjq {l : List Tok} (hl : TokOK l) {f p : Nat} {t : Tok} (ht : l[p]? = some t) (hk : ¬ t.kind = 2) (h1 : isB l p [116, 114, 117, 101] = false) (h2 : isB l p [102, 97, 108, 115, 101] = false)
  (h3 : isB l p [109, 105, 110] = false) (h4 : isB l p [109, 97, 120] = false) (h5 : isB l p [40] = false) {i nx : Nat} (hi : i < nx) :
  RetX Tryz.prog 133 [.ptr i 0] [(i, pOb l p)] nx (PPost l i nx zee (zaL l (f + 1) p)) := by
 have hne := zaB hi;have hp := (lGE.1 ht).1;have hnx := zbW l p t ht hl.len;have hll := hl.len;rw [zaL, ht];have hh1 := fun nx' (h : nx <= nx') => zbk l p [116, 114, 117, 101] i nx' (by omega) hp hl.len;have hh2 := fun nx' (h : nx <= nx') => zbk l p [102, 97, 108, 115, 101] i nx' (by omega) hp hl.len;have hm1 := zed l p [109, 105, 110] hp hl.len;have hm2 := zed l p [109, 97, 120] hp hl.len;have hh3 := fun nx' (h : nx <= nx') => zbk l p [40] i nx' (by omega) hp hl.len;have hnm := zeB t.text;have hc1 := fun nx' (h : nx <= nx') => zdF l p 12 i nx' (by omega);have hc2 := fun nx' (h : nx <= nx') => zcG l p t 12 i nx' (by omega) ht hl.len;simp only [hk, h1, h2, h3, h4, h5, if_false, if_true, Bool.false_eq_true, or_self] at hh1 hh2 hm1 hm2 hh3 ⊢;by_cases hw : t.kind = 1
 ·cases hb : zbO t.text with
  | true =>
   simp only [hb, hw, and_self, if_true] at hnm ⊢
   (refine RetX.of_bodyW Tryz.func133 rfl (by simp) fun Γ hn hpan => ?_); simp only [entry, ziC, ziN, maC, maN, oA, Tryz.ntmps133]
   repeat' (first
  | ((first | refine zae ?_ | refine zaj ?_ | fail); simp [hne, hk, hw, del, nAA])
  | (refine ⟨by omega, ?_⟩)
  | ((first | refine zah ?_ | refine zai ?_ | fail); simp [hne, hk, hw, del, nAA])
  | ((first | refine zaq ?_ | refine zap ?_ | fail); simp only [zao])
  | (refine CallP.fE (hnx) (by first | rfl | fail) (by first | simp [hne, hk, hw, del, nAA] <;> rfl | fail) ?_; (try simp [hne, hk, hw, del, nAA]))
  | (refine CallP.fE (hm1) (by first | rfl | fail) (by first | simp [hne, hk, hw, del, nAA] <;> rfl | fail) ?_; (try simp [hne, hk, hw, del, nAA]))
  | (refine CallP.fE (hm2) (by first | rfl | fail) (by first | simp [hne, hk, hw, del, nAA] <;> rfl | fail) ?_; (try simp [hne, hk, hw, del, nAA]))
  | (refine CallP.fE (hnm) (by first | rfl | fail) (by first | simp [hne, hk, hw, del, nAA] <;> rfl | fail) ?_; (try simp [hne, hk, hw, del, nAA]))
  | (refine CallP.ok1 (hh1 _ (by first | omega | simp <;> omega | fail)) (by first | (simp [hne, hk, hw, del, nAA, zaa, getK, zab, zac]; done) | fail) (by rfl) (by rfl) ?_; (try simp [hne, hk, hw, del, nAA]))
  | (refine CallP.ok1 (hh2 _ (by first | omega | simp <;> omega | fail)) (by first | (simp [hne, hk, hw, del, nAA, zaa, getK, zab, zac]; done) | fail) (by rfl) (by rfl) ?_; (try simp [hne, hk, hw, del, nAA]))
  | (refine CallP.ok1 (hh3 _ (by first | omega | simp <;> omega | fail)) (by first | (simp [hne, hk, hw, del, nAA, zaa, getK, zab, zac]; done) | fail) (by rfl) (by rfl) ?_; (try simp [hne, hk, hw, del, nAA]))
  | (refine CallP.ok1 (hc1 _ (by first | omega | simp <;> omega | fail)) (by first | (simp [hne, hk, hw, del, nAA, zaa, getK, zab, zac]; done) | fail) (by rfl) (by rfl) ?_; (try simp [hne, hk, hw, del, nAA]))
  | fail)
   refine EndW.norm ?_;simp [St.norm, zbj, zbX, zci, zcj, hne]
   (refine EndW.here ?_; (first | (refine EndOK.fin (.inr rfl) ?_) | (refine EndOK.fin (.inl rfl) ?_)); simp [zaG, zaf, Tryz.results133, hne, hi]; refine FinOK.cut [(i, pOb l (p + 1))] (nx) (by simp [zaa, getK, zab, zac, Ob.under, D.under, zad, zag, hne, hi] <;> omega) (by simp [D.under]) (by simp [hn]) ?_; try simp)
   exact PPost.zcm rfl (by simp [Exp.row]) rfl
  | false =>
   simp only [hb, hw, Bool.false_eq_true, and_false, if_false] at hnm ⊢
   (refine RetX.of_bodyW Tryz.func133 rfl (by simp) fun Γ hn hpan => ?_); simp only [entry, ziC, ziN, maC, maN, oA, Tryz.ntmps133]
   repeat' (first
  | ((first | refine zae ?_ | refine zaj ?_ | refine zah ?_ | refine zai ?_ | fail); simp [hne, hk, hw, del, nAA])
  | (refine zap ?_; simp only [zao])
  | (refine CallP.fE (hnx) (by first | rfl | fail) (by first | simp [hne, hk, hw, del, nAA] <;> rfl | fail) ?_; (try simp [hne, hk, hw, del, nAA]))
  | (refine CallP.fE (hm1) (by first | rfl | fail) (by first | simp [hne, hk, hw, del, nAA] <;> rfl | fail) ?_; (try simp [hne, hk, hw, del, nAA]))
  | (refine CallP.fE (hm2) (by first | rfl | fail) (by first | simp [hne, hk, hw, del, nAA] <;> rfl | fail) ?_; (try simp [hne, hk, hw, del, nAA]))
  | (refine CallP.fE (hnm) (by first | rfl | fail) (by first | simp [hne, hk, hw, del, nAA] <;> rfl | fail) ?_; (try simp [hne, hk, hw, del, nAA]))
  | (refine CallP.ok1 (hh1 _ (by first | omega | simp <;> omega | fail)) (by first | (simp [hne, hk, hw, del, nAA, zaa, getK, zab, zac]; done) | fail) (by rfl) (by rfl) ?_; (try simp [hne, hk, hw, del, nAA]))
  | (refine CallP.ok1 (hh2 _ (by first | omega | simp <;> omega | fail)) (by first | (simp [hne, hk, hw, del, nAA, zaa, getK, zab, zac]; done) | fail) (by rfl) (by rfl) ?_; (try simp [hne, hk, hw, del, nAA]))
  | (refine CallP.ok1 (hh3 _ (by first | omega | simp <;> omega | fail)) (by first | (simp [hne, hk, hw, del, nAA, zaa, getK, zab, zac]; done) | fail) (by rfl) (by rfl) ?_; (try simp [hne, hk, hw, del, nAA]))
  | (refine CallP.zei (hc2 _ (by first | omega | simp <;> omega | fail)) (by first | (simp [hne, hk, hw, del, nAA, zaa, getK, zab, zac]; done) | fail) (by rfl) (by first | assumption | (simp; done) | fail) (by rfl) (by simp) ?_; rintro ob' ⟨q', rfl⟩; refine ⟨_, Wk.refl _, ?_⟩)
  | fail)
   (refine hpan _ _ ⟨{ n := _, env := [], obs := [(i, pOb l q')], next := nx }, (Wk.cut rfl (by simp [hn]) (by simp [wkO, zaa, getK, zab, zac, Ob.under, D.under, zad, zag, hi, hne, zab, zac, zaa, getK]) (by simp [wkU, zan, zaa, getK, D.under, hi, hne, zab, zac, zaa, getK]) (by simp [wkE, zan, zaa, getK, hi, hne, zab, zac, zaa, getK])), by simp [hn], ?_⟩; try simp)
   exact PPost.zay rfl
 ·simp only [hw, false_and, if_false]
  (refine RetX.of_bodyW Tryz.func133 rfl (by simp) fun Γ hn hpan => ?_); simp only [entry, ziC, ziN, maC, maN, oA, Tryz.ntmps133]
  repeat' (first
  | ((first | refine zae ?_ | refine zaj ?_ | refine zah ?_ | refine zai ?_ | fail); simp [hne, hk, hw, del, nAA])
  | (refine zap ?_; simp only [zao])
  | (refine CallP.fE (hnx) (by first | rfl | fail) (by first | simp [hne, hk, hw, del, nAA] <;> rfl | fail) ?_; (try simp [hne, hk, hw, del, nAA]))
  | (refine CallP.fE (hm1) (by first | rfl | fail) (by first | simp [hne, hk, hw, del, nAA] <;> rfl | fail) ?_; (try simp [hne, hk, hw, del, nAA]))
  | (refine CallP.fE (hm2) (by first | rfl | fail) (by first | simp [hne, hk, hw, del, nAA] <;> rfl | fail) ?_; (try simp [hne, hk, hw, del, nAA]))
  | (refine CallP.ok1 (hh1 _ (by first | omega | simp <;> omega | fail)) (by first | (simp [hne, hk, hw, del, nAA, zaa, getK, zab, zac]; done) | fail) (by rfl) (by rfl) ?_; (try simp [hne, hk, hw, del, nAA]))
  | (refine CallP.ok1 (hh2 _ (by first | omega | simp <;> omega | fail)) (by first | (simp [hne, hk, hw, del, nAA, zaa, getK, zab, zac]; done) | fail) (by rfl) (by rfl) ?_; (try simp [hne, hk, hw, del, nAA]))
  | (refine CallP.ok1 (hh3 _ (by first | omega | simp <;> omega | fail)) (by first | (simp [hne, hk, hw, del, nAA, zaa, getK, zab, zac]; done) | fail) (by rfl) (by rfl) ?_; (try simp [hne, hk, hw, del, nAA]))
  | (refine CallP.zei (hc2 _ (by first | omega | simp <;> omega | fail)) (by first | (simp [hne, hk, hw, del, nAA, zaa, getK, zab, zac]; done) | fail) (by rfl) (by first | assumption | (simp; done) | fail) (by rfl) (by simp) ?_; rintro ob' ⟨q', rfl⟩; refine ⟨_, Wk.refl _, ?_⟩)
  | fail)
  (refine hpan _ _ ⟨{ n := _, env := [], obs := [(i, pOb l q')], next := nx }, (Wk.cut rfl (by simp [hn]) (by simp [wkO, zaa, getK, zab, zac, Ob.under, D.under, zad, zag, hi, hne, zab, zac, zaa, getK]) (by simp [wkU, zan, zaa, getK, D.under, hi, hne, zab, zac, zaa, getK]) (by simp [wkE, zan, zaa, getK, hi, hne, zab, zac, zaa, getK])), by simp [hn], ?_⟩; try simp)
  exact PPost.zay rfl
theorem zly {l : List Tok} {p : Nat} {w : List UInt8} {t : Tok} (ht : l[p]? = some t) (h : isB l p w = true) : t.text = w := by
 unfold isB at h;rw [ht] at h;simp only [Bool.and_eq_true, decide_eq_true_eq] at h;exact h.2
theorem zjp {l : List Tok} (hl : TokOK l) {f : Nat} (hE : zgl l f) : zh6 l (f + 1) := by
 intro p i nx hi hp hf;obtain ⟨t, ht⟩ : ∃ t, l[p]? = some t := ⟨_, List.getElem?_eq_getElem hp⟩;by_cases hk : t.kind = 2
 ·exact zkF hl ht hk hi
 cases h1 : isB l p [116, 114, 117, 101] with
 | true => exact zjo hl ht hk h1 hi
 | false =>
 cases h2 : isB l p [102, 97, 108, 115, 101] with
 | true => exact zim hl ht hk h1 h2 hi
 | false =>
 cases h3 : isB l p [109, 105, 110] with
 | true =>
  cases h4 : isB l p [109, 97, 120] with
  | true => exact absurd ((zly ht h3).symm.trans (zly ht h4)) (by decide)
  | false => exact zkG hl hE (by omega) ht hk h1 h2 h3 h4 hi
 | false =>
 cases h4 : isB l p [109, 97, 120] with
 | true => exact zkH hl hE (by omega) ht hk h1 h2 h3 h4 hi
 | false =>
 cases h5 : isB l p [40] with
 | true => exact zil hl hE (by omega) ht hk h1 h2 h3 h4 h5 hi
 | false => exact zjq hl ht hk h1 h2 h3 h4 h5 hi
end Go.Proofs.YthnemhfamhnfjaaGreatDoor
namespace Go.Proofs.YthnemhfamhnfjaaGreatDoor
open Go Go.VL
attribute [local simp] zc2 zck evPure opd uOf zaH St.put St.at getK binD binI binS binB nilD aggD zhr zh0 lookD lookR zcz Go.VL.nextD zcC ziz zia zgs zcu mkV zdn zbo zby mapEff zeb zgf Key.kk shiftI arith unD convD zdO loadD cellsAt fieldAddrD fieldD indexAddrD indexD sliceD cutD lenD minmaxD nilCheckD buildD fillD zbR zdd zeM setAll zcK zeS zcq zhB zcn St.add zaQ zbI rowsOf zdJ zcD zak zac zaa zbn zdb zba entry zbK zbT valD zb3 zcx zhn zdl zdm zbU zbM zav zaX zbr delAll effD St.effS zc8 zbg za5 zda zbh za7 zcc za6 zaW zcd zcX zbD zb7 zbp zb5 zb6 zaJ mkD zbV zbB zbL zav zco D.ids Op.operands Call.operands zbG makeIfD makeFuncD typeAssertD zhZ zdx zdy zhD zcA IntKind.bits zcL List.take_of_length_le List.range_succ
attribute [local irreducible] V G H HD HD2 zao Eff CallP CallV EndOK Fun Ret FinOK LoopI LoopW EndW
abbrev zqX (o : Opr) : D := .u (.agg [.str o.text, .int .i64 o.op, .int .i64 o.form])
abbrev zma (l : List Opr) : U := .sl (l.map fun o => [.str o.text, .int .i64 o.op, .int .i64 o.form])
theorem zd3 : Fun Tryz.prog 97 [] (· = .u (zma oprs)) := by
 unfold zma oprs
 (refine Fun.of_bodyW Tryz.func97 rfl (by simp) fun Γ hn => ?_); simp only [entry, ziC, ziN, maC, maN, oA, Tryz.ntmps97]
 repeat' (first
  | ((first | refine zae ?_ | refine zaj ?_ | refine zah ?_ | fail); simp [zbT, zbK])
  | (refine zaq ?_; simp only [zao])
  | fail)
 (refine EndW.frzN 1 ?_; simp [frzN, frz1, zaA, zaz, St.frz, St.frzS, frzS, fv, zaF, zbb, zbe, zaE, zau, zal, del, frz, zbf])
 refine EndW.here ?_
 (refine EndOK.val (.inr rfl) ?_; simp [zaG, zaf, zar, Tryz.results97])
theorem zpm (l : List Tok) (q : Nat) (o : Opr) (hq : q < l.length) (hl : l.length <= 1000000) : Fun Tryz.prog 98 (zqX o :: [U.row [zpZ l q] 0].map .u) (· = .u (.bool (isB l q o.text))) := by
 have h1 := zed l q o.text hq hl;simp only [List.map_cons, List.map_nil, zqX]
 (refine Fun.of_body Tryz.func98 rfl (by simp) fun Γ hn => ?_); simp only [entry, ziC, ziN, maC, maN, oA, Tryz.ntmps98]
 repeat' (first
  | ((first | refine zae ?_ | refine zaj ?_ | refine zah ?_ | fail); simp)
  | (refine zaq ?_; simp only [zao])
  | (refine CallP.fE (h1) (by first | rfl | fail) (by first | (simp; done) | (simp; rfl) | fail) ?_; (try simp))
  | fail)
 (refine EndOK.val (.inr rfl) ?_; simp [zaG, zaf, zar, Tryz.results98])
theorem zhU (l : List (Opr)) (f : FuncId) (caps : List U) (p : Opr -> Bool) (hf : ∀ n ∈ l, Fun Tryz.prog f (zqX n :: caps.map .u) (· = .u (.bool (p n)))) (hcl : zam Tryz.prog f = true)
  (hca : ∀ o, zcx o (caps.map .u) = some (caps.map .u, [])) : Fun Tryz.prog 96 [.u (zma l), .fnc (.func f) (caps.map .u)] (· = .u (.int .i64 (zhv p l 0))) := by
 (refine Fun.of_body Tryz.func96 rfl (by simp) fun Γ hn => ?_); simp only [entry, ziC, ziN, maC, maN, oA, Tryz.ntmps96]
 simp only [zma];refine ziV (x := 0) rfl fun hl => ?_;simp at hl
 repeat' (first
  | ((first | refine zae ?_ | refine zaj ?_ | refine zah ?_ | refine zaw ?_ | fail); simp)
  | fail)
 refine zcl (α := { i : Nat // i <= l.length /\ ∀ c ∈ l.take i, p c = false }) [0, 1, 7] (fun i => [(8, .u (.int .i64 i.1))]) (fun i => l.length - i.1) ⟨0, by omega, by simp⟩ ?_ ?_
 ·exact (Wk.env rfl rfl rfl (by simp [wkE, St.lp, zan, zaa, getK] <;> (try (intros; simp_all; done)) <;> (try (intros; omega)) <;> (try grind)))
 rintro ⟨i, hi, hb⟩;simp [St.lp, St.only, zan, zaa, getK];rcases hx : l[i]? with _ | n
 ·have hge : l.length <= i := by simpa using hx
  repeat' (first
  | ((first | refine zae ?_ | refine zaj ?_ | fail); simp [hx])
  | (refine ⟨by omega, ?_⟩)
  | (refine zah ?_; simp [hx])
  | (refine zaq ?_; simp only [zao])
  | (refine zbA ?_; simp [zao])
  | (intro hc <;> (try (exfalso; omega)))
  | fail)
  (refine EndOK.val (.inr rfl) ?_; simp [zaG, zaf, zar, Tryz.results96])
  rw [List.take_of_length_le hge] at hb;exact (zfi hb).symm
 ·have hlt : i < l.length := (lGE.1 hx).1;have h1 := hf n (List.mem_of_getElem? hx);simp only [zqX] at h1;cases hp : p n
  ·rw [hp] at h1
   repeat' (first
  | ((first | refine zae ?_ | refine zaj ?_ | fail); simp [hx, hca])
  | (refine ⟨by omega, ?_⟩)
  | ((first | refine zah ?_ | refine zai ?_ | refine zax ?_ | fail); simp [hx, hca])
  | (refine zap ?_; simp only [zao])
  | (refine ⟨?_, by omega⟩)
  | (intro hc <;> (try (exfalso; omega)))
  | (refine CallP.fE (h1) (by first | rfl | fail) (by first | simp [hx, hca] <;> rfl | fail) ?_; (try simp [hcl, hx, hca]))
  | fail)
   refine LoopW.next ⟨i + 1, by omega, zbu hx hb hp⟩ (by simp; omega) ?_
   exact (Wk.env rfl rfl rfl (by simp [wkE, St.lp, zan, zaa, getK] <;> (try (intros; simp_all; done)) <;> (try (intros; omega)) <;> (try grind)))
  ·rw [hp] at h1
   repeat' (first
  | ((first | refine zae ?_ | refine zaj ?_ | refine zah ?_ | refine zai ?_ | fail); simp [hx, hca])
  | ((first | refine zaq ?_ | refine zap ?_ | fail); simp only [zao])
  | (refine ⟨?_, by omega⟩)
  | (intro hc <;> (try (exfalso; omega)))
  | (refine CallP.fE (h1) (by first | rfl | fail) (by first | simp [hx, hca] <;> rfl | fail) ?_; (try simp [hcl, hx, hca]))
  | fail)
   (refine EndOK.val (.inr rfl) ?_; simp [zaG, zaf, zar, Tryz.results96])
   rw [ziD hb hx hp];omega
theorem zfj {p : Opr -> Bool} : ∀ (L : List Opr) (k : Int), (L.find? p = none -> zhv p L k = -1) /\ ∀ x, L.find? p = some x -> ∃ j : Nat, L[j]? = some x /\ zhv p L k = k + j
 | [], k => ⟨fun _ => rfl, fun x h => by simp at h⟩
 | a :: L, k => by
  by_cases h : p a = true
  ·refine ⟨fun h1 => by simp [h] at h1, fun x h1 => ?_⟩;rw [List.find?_cons, h] at h1;cases h1;exact ⟨0, rfl, by rw [zhv, if_pos h]; simp⟩
  ·have h' : p a = false := by simpa using h
   obtain ⟨h1, h2⟩ := zfj L (k + 1);refine ⟨fun h3 => ?_, fun x h3 => ?_⟩
   ·rw [List.find?_cons, h'] at h3;rw [zhv, if_neg h];exact h1 h3
   ·rw [List.find?_cons, h'] at h3;obtain ⟨j, h4, h5⟩ := h2 x h3;exact ⟨j + 1, h4, by rw [zhv, if_neg h, h5]; omega⟩
theorem zmx (l : List Tok) (q : Nat) (hq : q < l.length) (hl : l.length <= 1000000) : Fun Tryz.prog 96 [.u (zma oprs), .fnc (.func 98) [.u (.row [zpZ l q] 0)]]
  (· = .u (.int .i64 (zhv (fun o => isB l q o.text) oprs 0))) :=
 zhU oprs 98 [U.row [zpZ l q] 0] (fun o => isB l q o.text) (fun o _ => zpm l q o hq hl) rfl (fun o => rfl)
end Go.Proofs.YthnemhfamhnfjaaGreatDoor
namespace Go.Proofs.YthnemhfamhnfjaaGreatDoor
open Go Go.VL
attribute [local simp] HS zc2 zck evPure opd uOf zaH St.put St.at getK binD binI binS binB nilD aggD zhr zh0 lookD lookR zcz Go.VL.nextD zcC ziz zia zgs zcu mkV zdn zbo zby mapEff zeb zgf Key.kk shiftI arith unD convD zdO loadD cellsAt fieldAddrD fieldD indexAddrD indexD sliceD cutD lenD minmaxD nilCheckD buildD fillD zbR zdd zeM setAll zcK zeS zcq zhB zcn St.add zaQ zbI rowsOf zdJ zcD zak zac zaa zbn zdb zba entry zbK zbT valD zb3 zcx zhn zdl zdm zbU zbM zav zaX zbr delAll effD St.effS zc8 zbg za5 zda zbh za7 zcc za6 zaW zcd zcX zbD zb7 zbp zb5 zb6 zaJ mkD zbV zbB zbL zav zco D.ids Op.operands Call.operands zbG makeIfD makeFuncD typeAssertD zhZ zdx zdy zhD zcA IntKind.bits zcL List.take_of_length_le List.range_succ
attribute [local irreducible] V G H HD HD2 HD4 zkz RetX zao Eff CallP CallV EndOK Fun Ret FinOK LoopI LoopW EndW
theorem zq7 {l : List Tok} {F : FuncId} {r : PR (Exp × Int)} {e : Exp × Int} {q i nx : Nat} {ds : List D} {obs : List (Nat × Ob)} (h : RetX Tryz.prog F ds obs nx (PPost l i nx zjE r)) (hr : r = .ok e q) :
  RetX Tryz.prog F ds obs nx fun r o n => r = .val (.tup [.u (.agg [.int .i64 e.1.op, .int .i64 e.1.n, .int .i64 e.1.unit, .str e.1.s, .sl (e.1.args.map Exp.row)]), .u (.int .i64 e.2)]) /\ o = [(i, pOb l q)] /\ n = nx := by
 subst hr;rw [<- Exp.row_eq];exact h
abbrev zrX (e : Exp) : Ob := .box [.u (.int .i64 e.op), .u (.int .i64 e.n), .u (.int .i64 e.unit), .u (.str e.s), .u (.sl (e.args.map Exp.row))]
theorem zpk {l : List Tok} (hl : TokOK l) {f : Nat} (hE : ∀ g, g < f -> zgl l g) (hP : zqK l f) : zgl l (f + 1) := by
 intro p form i nx hi hp hf hm0 hm7;have hne := zaB hi;have hll := hl.len;rw [zc4];have ha := fun nx' (h : nx <= nx') => hP p form i nx' (by omega) hp (by omega) hm0 hm7;have hop := zd3;cases hr0 : zaZ l f p form with
 | stop pos e =>
  simp only [hr0] at ha
  (refine RetX.of_bodyW Tryz.func41 rfl (by simp) fun Γ hn hpan => ?_); simp only [entry, ziC, ziN, maC, maN, oA, Tryz.ntmps41]
  repeat' (first
  | ((first | refine zae ?_ | refine zaj ?_ | refine zah ?_ | fail); simp [hne, del, nAA])
  | (refine CallP.zei (ha _ (by first | omega | simp <;> omega | fail)) (by first | (simp [hne, del, nAA, zaa, getK, zab, zac]; done) | fail) (by rfl) (by first | assumption | (simp; done) | fail) (by rfl) (by simp) ?_; rintro ob' ⟨q', rfl⟩; refine ⟨_, Wk.refl _, ?_⟩)
  | fail)
  (refine hpan _ _ ⟨{ n := _, env := [], obs := [(i, pOb l q')], next := nx }, (Wk.cut rfl (by simp [hn]) (by simp [wkO, zaa, getK, zab, zac, Ob.under, D.under, zad, zag, hi, hne, zab, zac, zaa, getK]) (by simp [wkU, zan, zaa, getK, D.under, hi, hne, zab, zac, zaa, getK]) (by simp [wkE, zan, zaa, getK, hi, hne, zab, zac, zaa, getK])), by simp [hn], ?_⟩; try simp)
  exact PPost.zay (by simp [PR.bind, *])
 | ok v0 q0 =>
  have ha := fun nx' h => zq7 (ha nx' h) hr0;obtain ⟨g0a, g0b⟩ := (zce hl f).2.2.1 _ _ _ _ hr0 hp;generalize hR : (PR.ok v0 q0).bind (fun e q => zdc l f form e.1 e.2 q) = R;have hR' : R = zdc l f form v0.1 v0.2 q0 := hR.symm
  (refine RetX.of_bodyW Tryz.func41 rfl (by simp) fun Γ hn hpan => ?_); simp only [entry, ziC, ziN, maC, maN, oA, Tryz.ntmps41]
  repeat' (first
  | ((first | refine zae ?_ | refine zaj ?_ | refine zah ?_ | refine zaw ?_ | fail); simp [hne, del, nAA])
  | (refine CallP.ok1 (ha _ (by first | omega | simp <;> omega | fail)) (by first | (simp [hne, del, nAA, zaa, getK, zab, zac]; done) | fail) (by rfl) (by rfl) ?_; (try simp [hne, del, nAA]))
  | fail)
  refine zdL (α := { x : Exp × Int × Nat × Nat // x.2.2.1 < l.length /\ 4 * (l.length - x.2.2.1) + 2 <= x.2.2.2 /\ x.2.2.2 <= f /\ R = zdc l x.2.2.2 form x.1 x.2.1 x.2.2.1 }) [0, 1, 2, 4, 5] (fun x => [(6, .u (.int .i64 x.1.2.1))])
   (fun x => [(nx + 2, zrX x.1.1), (nx + 1, .box [.u (.int .i64 0), .u (.int .i64 0), .u (.int .i64 0), .u (.str []), .u .nil]), (nx, .box [.ptr i 0]), (i, pOb l x.1.2.2.1)]) (nx + 3) (fun x => x.1.2.2.2) ⟨(v0.1, v0.2, q0, f), g0b, (by show 4 * (l.length - q0) + 2 <= f; omega), (by show f <= f; omega), hR'⟩ ?_ ?_
  ·have hi3 : i < nx + 3 := by omega
   exact (Wk.cut rfl (by simp [hn, St.lp]) (by simp [wkO, St.lp, zaa, getK, Ob.under, D.under, zad, zag, hi, hi3, hne]) (by simp [wkU, St.lp, zan, zaa, getK, D.under, hi, hi3, hne]) (by simp [wkE, St.lp, zan, zaa, getK, hi, hi3, hne] <;> (try (intros; simp_all; done)) <;> (try (intros; omega)) <;> (try grind)))
  rintro ⟨⟨e, own, q, g⟩, h1, h2, h2b, h3⟩;simp only at h1 h2 h2b h3;simp [St.lp, St.only, zan, zaa, getK];obtain ⟨g, rfl⟩ : ∃ g', g = g' + 1 := ⟨g - 1, by omega⟩;rw [zdc] at h3;have hix := zmx l q h1 hl.len;cases hx : zeL l q with
  | none =>
   rw [(zfj oprs 0).1 hx] at hix;rw [hx] at h3
   repeat' (first
  | ((first | refine zae ?_ | refine zaj ?_ | refine zah ?_ | refine zai ?_ | refine zaw ?_ | fail); simp [hne, del, nAA])
  | (refine zaq ?_; simp only [zao])
  | (refine CallP.fE (hop) (by first | rfl | fail) (by first | simp [hne, del, nAA] <;> rfl | fail) ?_; (try simp [hne, del, nAA]))
  | (refine CallP.fE (hix) (by first | rfl | fail) (by first | simp [hne, del, nAA] <;> rfl | fail) ?_; (try simp [hne, del, nAA]))
  | fail)
   refine EndW.norm ?_;simp [St.norm, zbj, zbX, zci, zcj, hne, nAA]
   (refine EndW.here ?_; (first | (refine EndOK.fin (.inr rfl) ?_) | (refine EndOK.fin (.inl rfl) ?_)); simp [zaG, zaf, Tryz.results41, hne, hi]; refine FinOK.cut [(i, pOb l q)] (nx) (by simp [zaa, getK, zab, zac, Ob.under, D.under, zad, zag, hne, hi] <;> omega) (by simp [D.under]) (by simp [hn]) ?_; try simp)
   exact PPost.zcm h3 (by simp [Exp.row_eq]) rfl
  | some x =>
   obtain ⟨k, hk1, hk2⟩ := (zfj oprs 0).2 x hx;rw [hk2] at hix;rw [hx] at h3;simp only at h3;have hqb := zbd hl (by have := List.find?_some (p := fun o : Opr => isB l q o.text) hx; exact this);have hk0 : ¬ ((k : Int) < 0) := by omega
   have hkl : k < 8 := (lGE.1 hk1).1;rw [show (0 : Int) + k = (k : Int) by omega] at hix;have hfm : 0 <= x.form /\ x.form <= 6 := by
    have := List.mem_of_getElem? hk1;simp only [oprs, List.mem_cons, List.not_mem_nil, or_false] at this;rcases this with rfl | rfl | rfl | rfl | rfl | rfl | rfl | rfl <;> decide
   obtain ⟨hf0, hf6⟩ := hfm;generalize hL : oprs = L at hop hix hk1;by_cases c1 : x.form < form
   ·rw [if_pos (Or.inl c1)] at h3
    repeat' (first
  | ((first | refine zae ?_ | refine zaj ?_ | refine zah ?_ | refine zai ?_ | refine zaw ?_ | fail); simp [hne, del, nAA, hk0, hk1, c1])
  | ((first | refine zaq ?_ | refine zap ?_ | fail); simp only [zao])
  | (refine CallP.fE (hop) (by first | rfl | fail) (by first | simp [hne, del, nAA, hk0, hk1, c1] <;> rfl | fail) ?_; (try simp [hne, del, nAA, hk0, hk1, c1]))
  | (refine CallP.fE (hix) (by first | rfl | fail) (by first | simp [hne, del, nAA, hk0, hk1, c1] <;> rfl | fail) ?_; (try simp [hne, del, nAA, hk0, hk1, c1]))
  | fail)
    refine EndW.norm ?_;simp [St.norm, zbj, zbX, zci, zcj, hne, nAA]
    (refine EndW.here ?_; (first | (refine EndOK.fin (.inr rfl) ?_) | (refine EndOK.fin (.inl rfl) ?_)); simp [zaG, zaf, Tryz.results41, hne, hi]; refine FinOK.cut [(i, pOb l q)] (nx) (by simp [zaa, getK, zab, zac, Ob.under, D.under, zad, zag, hne, hi] <;> omega) (by simp [D.under]) (by simp [hn]) ?_; try simp)
    exact PPost.zcm h3 (by simp [Exp.row_eq]) rfl
   ·by_cases c2 : own < x.form
    ·rw [if_pos (Or.inr (Or.inl c2))] at h3
     repeat' (first
  | ((first | refine zae ?_ | refine zaj ?_ | refine zah ?_ | refine zai ?_ | refine zaw ?_ | fail); simp [hne, del, nAA, hk0, hk1, c1, c2])
  | ((first | refine zaq ?_ | refine zap ?_ | fail); simp only [zao])
  | (refine CallP.fE (hop) (by first | rfl | fail) (by first | simp [hne, del, nAA, hk0, hk1, c1, c2] <;> rfl | fail) ?_; (try simp [hne, del, nAA, hk0, hk1, c1, c2]))
  | (refine CallP.fE (hix) (by first | rfl | fail) (by first | simp [hne, del, nAA, hk0, hk1, c1, c2] <;> rfl | fail) ?_; (try simp [hne, del, nAA, hk0, hk1, c1, c2]))
  | fail)
     refine EndW.norm ?_;simp [St.norm, zbj, zbX, zci, zcj, hne, nAA]
     (refine EndW.here ?_; (first | (refine EndOK.fin (.inr rfl) ?_) | (refine EndOK.fin (.inl rfl) ?_)); simp [zaG, zaf, Tryz.results41, hne, hi]; refine FinOK.cut [(i, pOb l q)] (nx) (by simp [zaa, getK, zab, zac, Ob.under, D.under, zad, zag, hne, hi] <;> omega) (by simp [D.under]) (by simp [hn]) ?_; try simp)
     exact PPost.zcm h3 (by simp [Exp.row_eq]) rfl
    ·by_cases c3 : own = 4 /\ x.form = 4
     ·rw [if_pos (Or.inr (Or.inr c3))] at h3;obtain ⟨c4, c5⟩ := c3
      repeat' (first
  | ((first | refine zae ?_ | refine zaj ?_ | refine zah ?_ | refine zai ?_ | refine zaw ?_ | fail); simp [hne, del, nAA, hk0, hk1, c1, c2, c4, c5])
  | ((first | refine zaq ?_ | refine zap ?_ | fail); simp only [zao])
  | (refine ⟨?_, by omega⟩)
  | (intro hc <;> (try (exfalso; omega)))
  | (refine CallP.fE (hop) (by first | rfl | fail) (by first | simp [hne, del, nAA, hk0, hk1, c1, c2, c4, c5] <;> rfl | fail) ?_; (try simp [hne, del, nAA, hk0, hk1, c1, c2, c4, c5]))
  | (refine CallP.fE (hix) (by first | rfl | fail) (by first | simp [hne, del, nAA, hk0, hk1, c1, c2, c4, c5] <;> rfl | fail) ?_; (try simp [hne, del, nAA, hk0, hk1, c1, c2, c4, c5]))
  | fail)
      refine EndW.norm ?_;simp [St.norm, zbj, zbX, zci, zcj, hne, nAA]
      (refine EndW.here ?_; (first | (refine EndOK.fin (.inr rfl) ?_) | (refine EndOK.fin (.inl rfl) ?_)); simp [zaG, zaf, Tryz.results41, hne, hi]; refine FinOK.cut [(i, pOb l q)] (nx) (by simp [zaa, getK, zab, zac, Ob.under, D.under, zad, zag, hne, hi] <;> omega) (by simp [D.under]) (by simp [hn]) ?_; try simp)
      exact PPost.zcm h3 (by simp [Exp.row_eq]) rfl
     ·rw [if_neg (by rintro (h | h | h) <;> contradiction)] at h3;have hb := fun nx' (h : nx <= nx') => hE g (by omega) (q + 1) (x.form + 1) i nx' (by omega) hqb (by omega) (by omega) (by omega);cases hr1 : zc4 l g (q + 1) (x.form + 1) with
      | stop pos err =>
       simp only [hr1] at hb;rw [hr1] at h3;by_cases c4 : own = 4
       ·have c5 : ¬ x.form = 4 := fun h => c3 ⟨c4, h⟩
        repeat' (first
  | (refine zfy (fun nx' h' => hb nx' (by simp at h'; omega)) (by first | (simp [hne, del, nAA, hk0, hk1, c1, c2, c4, c5, zaa, getK, zab, zac, zak, zaJ]; done) | fail) (by rfl) (by first | assumption | simp) (by rfl) (by simp) ?_ ?_; rintro env' ob' n' hn' ⟨q', rfl⟩; refine ⟨_, Wk.refl _, ?_⟩)
  | (refine zez rfl (by simp) ?_; simp)
  | ((first | refine zae ?_ | refine zaU rfl ?_ | refine zaj ?_ | fail); simp [hne, del, nAA, hk0, hk1, c1, c2, c4, c5])
  | (refine ⟨by omega, ?_⟩)
  | ((first | refine zah ?_ | refine zai ?_ | fail); simp [hne, del, nAA, hk0, hk1, c1, c2, c4, c5])
  | (refine zfz (hC _ (zcf [i] nx (by simp <;> omega) (by simp <;> omega) (by apply Exists.intro; apply And.intro; (focus (repeat' (first | exact KF.nil | exact KL.nil | apply KF.cons | apply KL.cons 0 rfl | apply KL.cons 1 rfl | apply KL.cons 2 rfl | apply KL.cons 3 rfl | apply KL.cons 4 rfl | apply KL.cons 5 rfl | apply KL.cons 6 rfl | apply KL.cons 7 rfl | apply KL.cons 8 rfl | apply KL.cons 9 rfl))); kernel_rfl))) rfl; done)
  | (refine za9 rfl (by kernel_rfl) (by first | (simp [hn]; done) | (simp [hn]; omega) | fail) fun C k hC hk => ?_; simp [hne, del, nAA, hk0, hk1, c1, c2, c4, c5])
  | (refine zaw ?_; simp [hne, del, nAA, hk0, hk1, c1, c2, c4, c5])
  | (refine zap ?_; simp only [zao])
  | (refine ⟨?_, by omega⟩)
  | (intro hc <;> (try (exfalso; omega)))
  | (refine CallP.fE (hop) (by first | rfl | fail) (by first | simp [hne, del, nAA, hk0, hk1, c1, c2, c4, c5] <;> rfl | fail) ?_; (try simp [hne, del, nAA, hk0, hk1, c1, c2, c4, c5]))
  | (refine CallP.fE (hix) (by first | rfl | fail) (by first | simp [hne, del, nAA, hk0, hk1, c1, c2, c4, c5] <;> rfl | fail) ?_; (try simp [hne, del, nAA, hk0, hk1, c1, c2, c4, c5]))
  | fail)
        (refine hpan _ _ ⟨{ n := _, env := [], obs := [(i, pOb l q')], next := nx }, (Wk.cut rfl (by simp [hn]) (by simp [wkO, zaa, getK, zab, zac, Ob.under, D.under, zad, zag, hi, hne, zab, zac, zaa, getK]) (by simp [wkU, zan, zaa, getK, D.under, hi, hne, zab, zac, zaa, getK]) (by simp [wkE, zan, zaa, getK, hi, hne, zab, zac, zaa, getK])), by simp [hn], ?_⟩; try simp)
        exact PPost.zay h3
       ·repeat' (first
  | (refine zfy (fun nx' h' => hb nx' (by simp at h'; omega)) (by first | (simp [hne, del, nAA, hk0, hk1, c1, c2, c4, zaa, getK, zab, zac, zak, zaJ]; done) | fail) (by rfl) (by first | assumption | simp) (by rfl) (by simp) ?_ ?_; rintro env' ob' n' hn' ⟨q', rfl⟩; refine ⟨_, Wk.refl _, ?_⟩)
  | (refine zez rfl (by simp) ?_; simp)
  | ((first | refine zae ?_ | refine zaU rfl ?_ | refine zaj ?_ | fail); simp [hne, del, nAA, hk0, hk1, c1, c2, c4])
  | (refine ⟨by omega, ?_⟩)
  | ((first | refine zah ?_ | refine zai ?_ | fail); simp [hne, del, nAA, hk0, hk1, c1, c2, c4])
  | (refine zfz (hC _ (zcf [i] nx (by simp <;> omega) (by simp <;> omega) (by apply Exists.intro; apply And.intro; (focus (repeat' (first | exact KF.nil | exact KL.nil | apply KF.cons | apply KL.cons 0 rfl | apply KL.cons 1 rfl | apply KL.cons 2 rfl | apply KL.cons 3 rfl | apply KL.cons 4 rfl | apply KL.cons 5 rfl | apply KL.cons 6 rfl | apply KL.cons 7 rfl | apply KL.cons 8 rfl | apply KL.cons 9 rfl))); kernel_rfl))) rfl; done)
  | (refine za9 rfl (by kernel_rfl) (by first | (simp [hn]; done) | (simp [hn]; omega) | fail) fun C k hC hk => ?_; simp [hne, del, nAA, hk0, hk1, c1, c2, c4])
  | (refine zaw ?_; simp [hne, del, nAA, hk0, hk1, c1, c2, c4])
  | (refine zap ?_; simp only [zao])
  | (refine CallP.fE (hop) (by first | rfl | fail) (by first | simp [hne, del, nAA, hk0, hk1, c1, c2, c4] <;> rfl | fail) ?_; (try simp [hne, del, nAA, hk0, hk1, c1, c2, c4]))
  | (refine CallP.fE (hix) (by first | rfl | fail) (by first | simp [hne, del, nAA, hk0, hk1, c1, c2, c4] <;> rfl | fail) ?_; (try simp [hne, del, nAA, hk0, hk1, c1, c2, c4]))
  | fail)
        (refine hpan _ _ ⟨{ n := _, env := [], obs := [(i, pOb l q')], next := nx }, (Wk.cut rfl (by simp [hn]) (by simp [wkO, zaa, getK, zab, zac, Ob.under, D.under, zad, zag, hi, hne, zab, zac, zaa, getK]) (by simp [wkU, zan, zaa, getK, D.under, hi, hne, zab, zac, zaa, getK]) (by simp [wkE, zan, zaa, getK, hi, hne, zab, zac, zaa, getK])), by simp [hn], ?_⟩; try simp)
        exact PPost.zay h3
      | ok e2 q2 =>
       have hb := fun nx' h => zde (hb nx' h) hr1;obtain ⟨g1a, g1b⟩ := (zce hl g).1 _ _ _ _ hr1 hqb;rw [hr1] at h3;by_cases c4 : own = 4
       ·have c5 : ¬ x.form = 4 := fun h => c3 ⟨c4, h⟩
        repeat' (first
  | (refine zhq (fun nx' h' => hb nx' (by simp at h'; omega)) (by first | (simp [hne, del, nAA, hk0, hk1, c1, c2, c4, c5, zaa, getK, zab, zac, zak, zaJ]; done) | fail) (by rfl) (by first | assumption | simp) (by rfl) (by simp [D.under, Ob.under]) (by simp) ?_; (try simp [hne, del, nAA, hk0, hk1, c1, c2, c4, c5]))
  | ((first | refine zae ?_ | refine zaU rfl ?_ | refine zbJ rfl ?_ | refine zaj ?_ | fail); simp [hne, del, nAA, hk0, hk1, c1, c2, c4, c5])
  | (refine ⟨by omega, ?_⟩)
  | ((first | refine zah ?_ | refine zai ?_ | fail); simp [hne, del, nAA, hk0, hk1, c1, c2, c4, c5])
  | (refine za8 (hC _ (zcf [i] nx (by simp <;> omega) (by simp <;> omega) (by apply Exists.intro; apply And.intro; (focus (repeat' (first | exact KF.nil | exact KL.nil | apply KF.cons | apply KL.cons 0 rfl | apply KL.cons 1 rfl | apply KL.cons 2 rfl | apply KL.cons 3 rfl | apply KL.cons 4 rfl | apply KL.cons 5 rfl | apply KL.cons 6 rfl | apply KL.cons 7 rfl | apply KL.cons 8 rfl | apply KL.cons 9 rfl))); kernel_rfl))) (hk _ ?_); clear hC hk C k; simp only [zao])
  | (refine za9 rfl (by kernel_rfl) (by first | (simp [hn]; done) | (simp [hn]; omega) | fail) fun C k hC hk => ?_; simp [hne, del, nAA, hk0, hk1, c1, c2, c4, c5])
  | ((first | refine zaw ?_ | refine zax ?_ | fail); simp [hne, del, nAA, hk0, hk1, c1, c2, c4, c5])
  | (refine zap ?_; simp only [zao])
  | (refine ⟨?_, by omega⟩)
  | (intro hc <;> (try (exfalso; omega)))
  | (refine CallP.fE (hop) (by first | rfl | fail) (by first | simp [hne, del, nAA, hk0, hk1, c1, c2, c4, c5] <;> rfl | fail) ?_; (try simp [hne, del, nAA, hk0, hk1, c1, c2, c4, c5]))
  | (refine CallP.fE (hix) (by first | rfl | fail) (by first | simp [hne, del, nAA, hk0, hk1, c1, c2, c4, c5] <;> rfl | fail) ?_; (try simp [hne, del, nAA, hk0, hk1, c1, c2, c4, c5]))
  | fail)
        have hi3 : i < nx + 3 := by omega
        refine LoopW.next ⟨(.mk x.op 0 0 [] [e, e2], x.form, q2, g), g1b, (by show 4 * (l.length - q2) + 2 <= g; omega), (by show g <= f; omega), h3⟩ (by show g < g + 1; omega) ?_
        refine Wk.trans (Wk.frzN 1 _) ?_;simp [hne, nAA, frzN, frz1, zaA, zaz, St.frz, St.frzS, frzS, fv, zaF, zbb, zbe, zaE, zau, zal, del, frz, zbf];exact (Wk.cut rfl (by simp [hn, St.lp]) (by simp [wkO, St.lp, zaa, getK, Ob.under, D.under, zad, zag, hi, hi3, hne, Exp.row_eq, Exp.op, Exp.n, Exp.unit, Exp.s, Exp.args]) (by simp [wkU, St.lp, zan, zaa, getK, D.under, hi, hi3, hne, Exp.row_eq, Exp.op, Exp.n, Exp.unit, Exp.s, Exp.args]) (by simp [wkE, St.lp, zan, zaa, getK, hi, hi3, hne, Exp.row_eq, Exp.op, Exp.n, Exp.unit, Exp.s, Exp.args] <;> (try (intros; simp_all; done)) <;> (try (intros; omega)) <;> (try grind)))
       ·repeat' (first
  | (refine zhq (fun nx' h' => hb nx' (by simp at h'; omega)) (by first | (simp [hne, del, nAA, hk0, hk1, c1, c2, c4, zaa, getK, zab, zac, zak, zaJ]; done) | fail) (by rfl) (by first | assumption | simp) (by rfl) (by simp [D.under, Ob.under]) (by simp) ?_; (try simp [hne, del, nAA, hk0, hk1, c1, c2, c4]))
  | ((first | refine zae ?_ | refine zaU rfl ?_ | refine zbJ rfl ?_ | refine zaj ?_ | fail); simp [hne, del, nAA, hk0, hk1, c1, c2, c4])
  | (refine ⟨by omega, ?_⟩)
  | ((first | refine zah ?_ | refine zai ?_ | fail); simp [hne, del, nAA, hk0, hk1, c1, c2, c4])
  | (refine za8 (hC _ (zcf [i] nx (by simp <;> omega) (by simp <;> omega) (by apply Exists.intro; apply And.intro; (focus (repeat' (first | exact KF.nil | exact KL.nil | apply KF.cons | apply KL.cons 0 rfl | apply KL.cons 1 rfl | apply KL.cons 2 rfl | apply KL.cons 3 rfl | apply KL.cons 4 rfl | apply KL.cons 5 rfl | apply KL.cons 6 rfl | apply KL.cons 7 rfl | apply KL.cons 8 rfl | apply KL.cons 9 rfl))); kernel_rfl))) (hk _ ?_); clear hC hk C k; simp only [zao])
  | (refine za9 rfl (by kernel_rfl) (by first | (simp [hn]; done) | (simp [hn]; omega) | fail) fun C k hC hk => ?_; simp [hne, del, nAA, hk0, hk1, c1, c2, c4])
  | ((first | refine zaw ?_ | refine zax ?_ | fail); simp [hne, del, nAA, hk0, hk1, c1, c2, c4])
  | (refine zap ?_; simp only [zao])
  | (refine CallP.fE (hop) (by first | rfl | fail) (by first | simp [hne, del, nAA, hk0, hk1, c1, c2, c4] <;> rfl | fail) ?_; (try simp [hne, del, nAA, hk0, hk1, c1, c2, c4]))
  | (refine CallP.fE (hix) (by first | rfl | fail) (by first | simp [hne, del, nAA, hk0, hk1, c1, c2, c4] <;> rfl | fail) ?_; (try simp [hne, del, nAA, hk0, hk1, c1, c2, c4]))
  | fail)
        have hi3 : i < nx + 3 := by omega
        refine LoopW.next ⟨(.mk x.op 0 0 [] [e, e2], x.form, q2, g), g1b, (by show 4 * (l.length - q2) + 2 <= g; omega), (by show g <= f; omega), h3⟩ (by show g < g + 1; omega) ?_
        refine Wk.trans (Wk.frzN 1 _) ?_;simp [hne, nAA, frzN, frz1, zaA, zaz, St.frz, St.frzS, frzS, fv, zaF, zbb, zbe, zaE, zau, zal, del, frz, zbf];exact (Wk.cut rfl (by simp [hn, St.lp]) (by simp [wkO, St.lp, zaa, getK, Ob.under, D.under, zad, zag, hi, hi3, hne, Exp.row_eq, Exp.op, Exp.n, Exp.unit, Exp.s, Exp.args]) (by simp [wkU, St.lp, zan, zaa, getK, D.under, hi, hi3, hne, Exp.row_eq, Exp.op, Exp.n, Exp.unit, Exp.s, Exp.args]) (by simp [wkE, St.lp, zan, zaa, getK, hi, hi3, hne, Exp.row_eq, Exp.op, Exp.n, Exp.unit, Exp.s, Exp.args] <;> (try (intros; simp_all; done)) <;> (try (intros; omega)) <;> (try grind)))
end Go.Proofs.YthnemhfamhnfjaaGreatDoor
namespace Go.VL
open Go
theorem zoz {P : Program} {Γ : Ctx} {c : Code} {s : St} {Q : Exit -> St -> Prop} {x j : Nat} {cells : List U} {rows : List (List U)} (hx : getK s.env x = some (.u (.agg cells))) (hj : cells[j]? = some (.sl rows)) (h : rows.length <= 9223372036854775807 -> V P Γ c s Q) : V P Γ c s Q :=
 zqc (fun K a w hs => by
  have hr := (hs.getK hx).2;obtain ⟨vs, hl, _, hr⟩ := zd2 hr;have hr := hr j _ hj;generalize vs.getD j undef = v at hr;cases hr with
  | slE => simp
  | sl _ b o sz c f hc hcx => unfold maxLen at hcx; omega) h
end Go.VL
namespace Go.Proofs.YthnemhfamhnfjaaGreatDoor
open Go Go.VL
attribute [local simp] zc2 zck evPure opd uOf zaH St.put St.at getK binD binI binS binB nilD aggD zhr zh0 lookD lookR zcz Go.VL.nextD zcC ziz zia zgs zcu mkV zdn zbo zby mapEff zeb zgf Key.kk shiftI arith unD convD zdO loadD cellsAt fieldAddrD fieldD indexAddrD indexD sliceD cutD lenD minmaxD nilCheckD buildD fillD zbR zdd zeM setAll zcK zeS zcq zhB zcn St.add zaQ zbI rowsOf zdJ zcD zak zac zaa zbn zdb zba entry zbK zbT valD zb3 zcx zhn zdl zdm zbU zbM zav zaX zbr delAll effD St.effS zc8 zbg za5 zda zbh za7 zcc za6 zaW zcd zcX zbD zb7 zbp zb5 zb6 zaJ mkD zbV zbB zbL zav zco D.ids Op.operands Call.operands zbG makeIfD makeFuncD typeAssertD zhZ zdx zdy zhD zcA IntKind.bits zcL List.take_of_length_le List.range_succ
attribute [local irreducible] V G H HD HD2 zao Eff CallP CallV EndOK Fun Ret FinOK LoopI LoopW EndW
theorem zjz {l : List Tok} (hl : TokOK l) : ∀ f, zgl l f /\ zqK l f /\ zh6 l f := by
 intro f
 induction f using Nat.strongRecOn with
 | _ f ih =>
  cases f with
  | zero => exact ⟨fun p form i nx _ _ h => by omega, fun p form i nx _ _ h => by omega, fun p i nx _ _ h => by omega⟩
  | succ f =>
   obtain ⟨h1, h2, h3⟩ := ih f (by omega);exact ⟨zpk hl (fun g hg => (ih g (by omega)).1) h2, zkI hl h1 h3, zjp hl h1⟩
def Exp.lev : Exp -> Int
 | .mk _ _ _ _ args => (args.map fun e => e.lev).foldl max 0 + 1
theorem Exp.zgd (e : Exp) : e.lev = (e.args.map Exp.lev).foldl max 0 + 1 := by
 cases e with
 | mk op n u s args => rw [Exp.lev]; rfl
theorem zcg : ∀ (l : List Int) (a : Int), a <= l.foldl max a /\ ∀ x ∈ l, x <= l.foldl max a
 | [], a => ⟨by simp, fun x h => by simp at h⟩
 | b :: l, a => by
  obtain ⟨h1, h2⟩ := zcg l (max a b);refine ⟨by simp only [List.foldl_cons]; omega, fun x hx => ?_⟩;rcases List.mem_cons.1 hx with rfl | hx
  ·simp only [List.foldl_cons]; omega
  ·exact h2 x hx
theorem Exp.lev_pos (e : Exp) : 1 <= e.lev := by
 rw [Exp.zgd];have := (zcg (e.args.map Exp.lev) 0).1;omega
theorem Exp.ze6 {e x : Exp} (h : x ∈ e.args) : SizeOf.sizeOf x < SizeOf.sizeOf e := by
 cases e with
 | mk op n u s args =>
  have := List.sizeOf_lt_of_mem h;simp only [Exp.args] at this;simp only [Exp.mk.sizeOf_spec];omega
theorem zhR : ∀ (n : Nat) (e : Exp), SizeOf.sizeOf e <= n -> e.lev <= 1000000000 -> Fun Tryz.prog 44 [.u (.agg e.row)] (· = .u (.int .i64 e.lev)) := by
 intro n
 induction n with
 | zero =>
  intro e h;cases e with
  | mk op n u s args => simp only [Exp.mk.sizeOf_spec] at h; omega
 | succ n ih =>
  intro e hs he;have hx : ∀ x ∈ e.args, Fun Tryz.prog 44 [.u (.agg [.int .i64 x.op, .int .i64 x.n, .int .i64 x.unit, .str x.s, .sl (x.args.map Exp.row)])] (· = .u (.int .i64 x.lev)) := fun x hx => by
   rw [<- Exp.row_eq];refine ih x (by have := Exp.ze6 hx; omega) ?_;have := (zcg (e.args.map Exp.lev) 0).2 x.lev (List.mem_map.2 ⟨x, hx, rfl⟩);rw [Exp.zgd] at he;omega
  have hlb : ∀ k, ((e.args.map Exp.lev).take k).foldl max 0 <= 1000000000 := fun k => by
   rw [<- List.map_take];rw [Exp.zgd] at he;have h2 : (e.args.map Exp.lev).foldl max 0 = (e.args.drop k |>.map Exp.lev).foldl max ((e.args.take k |>.map Exp.lev).foldl max 0) := by
    rw [<- List.foldl_append, <- List.map_append, List.take_append_drop]
   have := (zcg (e.args.drop k |>.map Exp.lev) ((e.args.take k |>.map Exp.lev).foldl max 0)).1;omega
  rw [Exp.row_eq, Exp.zgd];generalize hA : e.args = A at *;rw [Exp.zgd, hA] at he
  (refine Fun.of_body Tryz.func44 rfl (by simp) fun Γ hn => ?_); simp only [entry, ziC, ziN, maC, maN, oA, Tryz.ntmps44]
  refine zoz (x := 0) (j := 4) rfl rfl fun hl => ?_;simp at hl
  repeat' (first
  | ((first | refine zae ?_ | refine zaj ?_ | refine zah ?_ | refine zaw ?_ | fail); simp)
  | fail)
  refine zcl (α := { k : Nat // k <= A.length }) [0, 1, 2, 7, 8] (fun k => [(9, .u (.int .i64 k.1)), (3, .u (.int .i64 (((A.map Exp.lev).take k.1).foldl max 0)))]) (fun k => A.length - k.1) ⟨0, by omega⟩ ?_ ?_
  ·exact (Wk.env rfl rfl rfl (by simp [wkE, St.lp, zan, zaa, getK] <;> (try (intros; simp_all; done)) <;> (try (intros; omega)) <;> (try grind)))
  rintro ⟨k, hk⟩;simp [St.lp, St.only, zan, zaa, getK];rcases hy : A[k]? with _ | y
  ·have hge : A.length <= k := by simpa using hy
   have hb := hlb k;rw [List.take_of_length_le (by simpa using hge : (A.map Exp.lev).length <= k)] at hb ⊢;have hb0 := (zcg (A.map Exp.lev) 0).1;generalize (A.map Exp.lev).foldl max 0 = M at *
   repeat' (first
  | ((first | refine zae ?_ | refine zaj ?_ | fail); simp [hy])
  | (refine ⟨by omega, ?_⟩)
  | (refine zah ?_; simp [hy])
  | (refine zaq ?_; simp only [zao])
  | (refine zbA ?_; simp [zao])
  | (intro hc <;> (try (exfalso; omega)))
  | fail)
   (refine EndOK.val (.inr rfl) ?_; simp [zaG, zaf, zar, Tryz.results44])
  ·have hlt : k < A.length := (lGE.1 hy).1;have hfn := hx y (List.mem_of_getElem? hy);have ht : ((A.map Exp.lev).take (k + 1)).foldl max 0 = max (((A.map Exp.lev).take k).foldl max 0) y.lev := by
    rw [List.take_add_one, List.getElem?_map, hy];simp
   have hb := hlb (k + 1);rw [ht] at hb;have hb0 := (zcg ((A.map Exp.lev).take k) 0).1;generalize hM : ((A.map Exp.lev).take k).foldl max 0 = M at *;have hyp := y.lev_pos
   repeat' (first
  | ((first | refine zae ?_ | refine zaj ?_ | fail); simp [hy, Exp.row_eq])
  | (refine ⟨by omega, ?_⟩)
  | ((first | refine zah ?_ | refine zax ?_ | fail); simp [hy, Exp.row_eq])
  | (refine zap ?_; simp only [zao])
  | (refine ⟨?_, by omega⟩)
  | (intro hc <;> (try (exfalso; omega)))
  | (refine CallP.fE (hfn) (by first | rfl | fail) (by first | simp [hy, Exp.row_eq] <;> rfl | fail) ?_; (try simp [hy, Exp.row_eq]))
  | fail)
   refine LoopW.next ⟨k + 1, hlt⟩ (by show A.length - (k + 1) < A.length - k; omega) ?_
   exact (Wk.cut rfl (by simp [hn, St.lp]) (by simp [wkO, St.lp, zaa, getK, Ob.under, D.under, zad, zag, ht]) (by simp [wkU, St.lp, zan, zaa, getK, D.under, ht]) (by simp [wkE, St.lp, zan, zaa, getK, ht] <;> (try (intros; simp_all; done)) <;> (try (intros; omega)) <;> (try grind)))
end Go.Proofs.YthnemhfamhnfjaaGreatDoor
namespace Go.Proofs.YthnemhfamhnfjaaGreatDoor
open Go Go.VL
def zp2 (l : List Tok) (p : Nat) (least most : Int) : PR Int := match l[p]? with
 | none => .stop 0 0
 | some t => if t.kind = 2 then if least <= t.n /\ t.n <= most then .ok t.n (p + 1) else .stop t.pos 3 else .stop t.pos 12
def zdw (l : List Tok) (p : Nat) (word : W8) (least most : Int) (behind : List W8) : PR Int :=
 if isB l p word = true then (zp2 l (p + 1) least most).bind fun n q => (zbt l q behind).bind fun _ r => .ok n r else .ok 0 p
def zdz (l : List Tok) (p : Nat) : PR Exp := (zc4 l (4 * l.length + 3) p 0).bind fun e q =>
 if isB l q [59] = true then if e.lev <= 12 then .ok e (q + 1) else .stop (zcR l q) 6 else .stop (zcR l q) 12
def zfM (l : List Tok) (p : Nat) : PR (Int × Bool) := (zbt l p [[99, 105, 114, 99, 108, 101]]).bind fun _ q =>
 if isB l q [114, 111, 116, 97, 116, 105, 110, 103] = true then (zbt l (q + 1) [[59]]).bind fun _ r => .ok (0, false) r
 else if isB l q [115, 97, 118, 105, 110, 103] = true then (zbt l (q + 1) [[59]]).bind fun _ r => .ok (2, false) r
 else (zbt l q [[98, 105, 100, 100, 105, 110, 103]]).bind fun _ r => if isB l r [115, 101, 97, 108, 101, 100] = true then (zbt l (r + 1) [[59]]).bind fun _ r => .ok (1, true) r else (zbt l r [[59]]).bind fun _ r => .ok (1, false) r
def ordersW : List W8 := [[106, 111, 105, 110], [100, 114, 97, 119], [110, 101, 101, 100]]
def zdP (l : List Tok) (p : Nat) : PR Int :=
 if isB l p [111, 114, 100, 101, 114] = true then match ordersW.findIdx? fun w => isB l (p + 1) w with
  | some i => (zbt l (p + 2) [[59]]).bind fun _ r => .ok i r
  | none => .stop (zcR l (p + 1)) 12
 else .ok 0 p
def zfL (l : List Tok) : Nat -> Nat -> List Let -> PR (List Let)
 | 0, _, _ => .stop 0 0
 | f + 1, p, acc => if isB l p [108, 101, 116] = true then
   if acc.length < 20 then match l[p + 1]? with
    | none => .stop 0 0
    | some t => if t.kind = 1 ∧ zbO t.text = true then
          if (acc.any fun x => decide (x.name = t.text)) = true then .stop t.pos 5
          else (zbt l (p + 2) [[61]]).bind fun _ q => (zdz l q).bind fun e r => zfL l f r (acc ++ [⟨t.text, e⟩])
     else .stop t.pos 12
   else .stop (zcR l p) 6
  else .ok acc p
def nothingE : Exp := .mk 0 0 3 [] []
def zcw (l : List Tok) (p : Nat) (word : W8) : PR Exp := if isB l p word = true then zdz l (p + 1) else .ok nothingE p
def ziw (l : List Tok) (p : Nat) (word : W8) : PR Unit := if isB l p word = true then .ok () p else .stop (zcR l p) 12
def zpo (l : List Tok) (p : Nat) : PR Unit := match l[p]? with | some t => if t.kind = 0 then .ok () p else .stop t.pos 12 | none => .stop 0 0
def zoH (l : List Tok) : PR By :=
 (zfM l 0).bind fun k p => (ziw l p [112, 101, 114, 105, 111, 100]).bind fun _ p => (zdw l p [112, 101, 114, 105, 111, 100] 1 1000 [[100, 97, 121, 115], [59]]).bind fun period p =>
 (ziw l p [108, 97, 115, 116]).bind fun _ p => (zdw l p [108, 97, 115, 116] 1 1000 [[59]]).bind fun last p =>
 (zdw l p [103, 114, 97, 99, 101] 0 1000 [[100, 97, 121, 115], [59]]).bind fun grace p => (zdw l p [119, 97, 105, 116] 0 1000 [[100, 97, 121, 115], [59]]).bind fun wait p =>
 (zdP l p).bind fun order p => (zdw l p [98, 97, 99, 107, 115] 0 60 [[59]]).bind fun backs p => (zdw l p [118, 111, 105, 99, 101, 115] 0 1000 [[112, 101, 114], [109, 105, 108, 108, 101], [59]]).bind fun voices p =>
 (zdw l p [106, 117, 114, 121] 0 60 [[59]]).bind fun jury p => (zdw l p [102, 117, 110, 100] 0 1000 [[112, 101, 114], [109, 105, 108, 108, 101], [59]]).bind fun fund p =>
 (zfL l 21 p []).bind fun lets p => (zbt l p [[100, 117, 101]]).bind fun _ p => (zdz l p).bind fun due p =>
 (zcw l p [102, 105, 110, 101]).bind fun fine p => (zcw l p [112, 97, 121]).bind fun pay p => (zcw l p [99, 111, 118, 101, 114]).bind fun cover p => (zcw l p [104, 111, 108, 100]).bind fun hold p =>
 (zpo l p).bind fun _ p => .ok ⟨k.1, period, grace, wait, last, order, k.2, backs, voices, jury, fund, lets, due, fine, pay, cover, hold⟩ p
def zjw (word : W8) (n : Int) (behind : List W8) : List W8 := if n = 0 then [] else word :: Lib.itoa n :: (behind ++ [[59]])
def zfg (k : Int) (s : Bool) : List W8 := if s = true then [[99, 105, 114, 99, 108, 101], [98, 105, 100, 100, 105, 110, 103], [115, 101, 97, 108, 101, 100], [59]] else [[99, 105, 114, 99, 108, 101], if k = 0 then [114, 111, 116, 97, 116, 105, 110, 103] else if k = 1 then [98, 105, 100, 100, 105, 110, 103] else [115, 97, 118, 105, 110, 103], [59]]
def zld (o : Int) : List W8 := if o = 0 then [] else [[111, 114, 100, 101, 114], ordersW.getD o.toNat [], [59]]
def zbm (word : W8) (e : Exp) : List W8 := word :: (zaS e 0 ++ [[59]])
noncomputable def restW (word : W8) (e : Exp) : List W8 := open Classical in if e = nothingE then [] else zbm word e
def StopAt (l : List Tok) (p : Nat) (S : List W8) : Prop := ∀ v, v ∉ S -> isB l p v = false
theorem StopAt.head {l p} {w : W8} {b : List W8} (h : Reads l p (w :: b)) : StopAt l p [w] := fun v hv => by
 rw [h.isB]; exact decide_eq_false fun e => hv (by simp [e])
theorem StopAt.more {l p} {S T : List W8} (h : StopAt l p S) (hs : ∀ v ∈ S, v ∈ T) : StopAt l p T := fun v hv => h v fun hm => hv (hs v hm)
theorem zmu {l p} {n : Int} {b : List W8} (h0 : 0 <= n) (h1 : n <= 1099511627776) (h : Reads l p (Lib.itoa n :: b)) {least most : Int} (h2 : least <= n) (h3 : n <= most) : zp2 l p least most = .ok n (p + 1) := by
 obtain ⟨k1, k2, k3⟩ := zgt h0 h1;obtain ⟨_, t, ht, t1, t2, t3⟩ := h.head;rw [k1] at t2;rw [zoG, if_pos k1, k2] at t3;simp only [Option.getD_some] at t3;rw [zp2, ht];simp only [t2, t3, if_true];rw [if_pos ⟨h2, h3⟩]
theorem zfB {l : List Tok} : ∀ (ws : List W8) {p : Nat} {b : List W8}, Reads l p (ws ++ b) -> zbt l p ws = .ok () (p + ws.length)
 | [], p, b, h => rfl
 | w :: ws, p, b, h => by
  have h' : Reads l p (w :: (ws ++ b)) := h;rw [zbt, if_pos (by rw [h'.isB]; simp), zfB ws h'.tail, List.length_cons, nAA, Nat.add_comm 1]
end Go.Proofs.YthnemhfamhnfjaaGreatDoor
namespace Go.Proofs.YthnemhfamhnfjaaGreatDoor
open Go Go.VL
theorem zf8 {m : Int} : ∀ (l : List Int) (a : Int), a <= m -> (∀ x ∈ l, x <= m) -> l.foldl max a <= m
 | [], a, h, _ => h
 | b :: l, a, h, h2 => by
  rw [List.foldl_cons];exact zf8 l _ (by have := h2 b (by simp); omega) fun x hx => h2 x (by simp [hx])
theorem zp3 : ∀ (d : Nat) (e : Exp), zaC d e = true -> e.lev <= d
 | 0, e, h => by rw [zaC] at h; cases h
 | d + 1, .mk op n u s args, h => by
  have hle : ∀ x ∈ args, x.lev <= d := fun x hx => by
   rcases zb9 h with ⟨rfl, rfl, rfl, hn⟩ | ⟨rfl, rfl, rfl, rfl, hn⟩ | ⟨rfl, rfl, rfl, ha, h3⟩
   ·cases hx
   ·cases hx
   ·exact zp3 d x (ha x hx)
  rw [Exp.zgd];have h2 : ((Exp.mk op n u s args).args.map Exp.lev).foldl max 0 <= (d : Int) := zf8 _ _ (by omega) fun x hx => by
   obtain ⟨y, hy, rfl⟩ := List.mem_map.1 hx;exact hle y hy
  omega
theorem Reads.lt {l p} {w : W8} {b : List W8} (h : Reads l p (w :: b)) : p < l.length := by
 obtain ⟨_, t, ht, _⟩ := h.head;exact (lGE.1 ht).1
theorem zne (e : Exp) (h : zaC 12 e = true) : zaS e 0 ≠ [] := by
 obtain ⟨op, n, u, s, args⟩ := e;rw [zaS, zoF, if_neg (by have := (zhd (Exp.mk op n u s args).op).1; show ¬ zbZ (Exp.mk op n u s args).op < 0; omega)];show zaV (Exp.mk op n u s args) ≠ [];rcases zb9 h with ⟨rfl, rfl, rfl, hn⟩ | ⟨rfl, rfl, rfl, rfl, hn⟩ | ⟨rfl, rfl, rfl, ha, h3⟩
 ·rw [zaV, zcJ, if_pos rfl, zdh]; split <;> simp
 ·rw [zaV, zcJ, if_neg (by decide), if_pos rfl]; simp
 ·rcases h3 with ⟨rfl, hl⟩ | ⟨rfl, hl⟩ | ⟨g0, g1, g12, g13, g2, g3, hl⟩
  ·obtain ⟨a, rfl⟩ := zkT hl;rw [zfs]; simp
  ·obtain ⟨a, b, c, rfl⟩ := zkR hl;rw [zhm]; simp
  ·obtain ⟨a, b, rfl⟩ := zkS hl;by_cases h6 : op = 6
   ·subst h6; rw [zft]; simp
   ·by_cases h7 : op = 7
    ·subst h7; rw [zfu]; simp
    ·obtain ⟨o, ho, rfl⟩ := zgS (op := op) (by omega) (by omega) h6 h7;rw [zfr ho]; simp
theorem Reads.ltL {l p} {ws b : List W8} (h : Reads l p (ws ++ b)) (hne : ws ≠ []) : p < l.length := by
 cases ws with
 | nil => exact absurd rfl hne
 | cons w ws => exact Reads.lt (b := ws ++ b) h
theorem zgz {l : List Tok} (hl : TokOK l) {p : Nat} {e : Exp} {b : List W8} (he : zaC 12 e = true) (h : Reads l p (zaS e 0 ++ [59] :: b)) : zdz l p = .ok e (p + (zaS e 0).length + 1) := by
 have hr := h.right;have hp := h.ltL (zne e he);have hx := (zpl he h.left (hr.noUnit (by decide) (by decide) (by decide)) (by rw [hr.opr]; rfl)).fuel hl hp (f := 4 * l.length + 3) (by omega);rw [zdz, hx, PR.zat, if_pos (by rw [hr.isB]; simp), if_pos (show e.lev <= (12 : Int) from zp3 12 e he)]
theorem zfF {l : List Tok} (hl : TokOK l) {p : Nat} {word : W8} {e : Exp} {b : List W8} (he : zaC 12 e = true) (h : Reads l p (restW word e ++ b)) {S : List W8} (hs : StopAt l (p + (restW word e).length) S) (hw : word ∉ S) :
  zcw l p word = .ok e (p + (restW word e).length) /\ StopAt l p (word :: S) := by
 by_cases hz : e = nothingE
 ·have hW : restW word e = [] := by unfold restW; rw [if_pos hz]
  rw [hW, List.length_nil, Nat.add_zero] at hs ⊢;rw [zcw, hs word hw, hz];exact ⟨rfl, StopAt.more hs fun v hv => List.mem_cons_of_mem _ hv⟩
 ·have hW : restW word e = zbm word e := by unfold restW; rw [if_neg hz]
  rw [hW, zbm] at h ⊢;have h' : Reads l p (word :: (zaS e 0 ++ [59] :: b)) := by simpa using h
  refine ⟨?_, (StopAt.head h').more fun v hv => by simp only [List.mem_singleton] at hv; subst hv; simp⟩;rw [zcw, if_pos (by rw [h'.isB]; simp), zgz hl he h'.tail]
  congr 1
  simp;omega
theorem zqm {l : List Tok} {p : Nat} {o : Int} {b : List W8} (h0 : 0 <= o) (h1 : o <= 2) (h : Reads l p (zld o ++ b)) {S : List W8} (hs : StopAt l (p + (zld o).length) S) (hw : [111, 114, 100, 101, 114] ∉ S) :
  zdP l p = .ok o (p + (zld o).length) /\ StopAt l p ([111, 114, 100, 101, 114] :: S) := by
 have hc : o = 0 \/ o = 1 \/ o = 2 := by omega
 rcases hc with rfl | rfl | rfl
 ·have hW : zld 0 = [] := rfl;rw [hW, List.length_nil, Nat.add_zero] at hs ⊢;rw [zdP, hs _ hw];exact ⟨rfl, StopAt.more hs fun v hv => List.mem_cons_of_mem _ hv⟩
 ·have h' : Reads l p ([111, 114, 100, 101, 114] :: [100, 114, 97, 119] :: [59] :: b) := h;refine ⟨?_, (StopAt.head h').more fun v hv => by simp only [List.mem_singleton] at hv; subst hv; simp⟩;have hf : (ordersW.findIdx? fun w => isB l (p + 1) w) = some 1 := by simp [ordersW, List.findIdx?, List.findIdx?.go, h'.tail.isB]
  rw [zdP, if_pos (by rw [h'.isB]; simp), hf];simp only [h'.tail.tail.want, PR.zat];rfl
 ·have h' : Reads l p ([111, 114, 100, 101, 114] :: [110, 101, 101, 100] :: [59] :: b) := h;refine ⟨?_, (StopAt.head h').more fun v hv => by simp only [List.mem_singleton] at hv; subst hv; simp⟩;have hf : (ordersW.findIdx? fun w => isB l (p + 1) w) = some 2 := by simp [ordersW, List.findIdx?, List.findIdx?.go, h'.tail.isB]
  rw [zdP, if_pos (by rw [h'.isB]; simp), hf];simp only [h'.tail.tail.want, PR.zat];rfl
theorem zmt {l : List Tok} {p : Nat} {k : Int} {s : Bool} {b : List W8} (h0 : 0 <= k) (h1 : k <= 2) (h2 : s = true -> k = 1) (h : Reads l p (zfg k s ++ b)) : zfM l p = .ok (k, s) (p + (zfg k s).length) := by
 cases s with
 | true =>
  obtain rfl := h2 rfl;have h' : Reads l p ([99, 105, 114, 99, 108, 101] :: [98, 105, 100, 100, 105, 110, 103] :: [115, 101, 97, 108, 101, 100] :: [59] :: b) := h;have r1 := h'.tail;have r2 := r1.tail;rw [zfM, h'.want, PR.zat, r1.isB, r1.isB, if_neg (by decide), if_neg (by decide), r1.want, PR.zat, r2.isB, if_pos (by decide), r2.tail.want, PR.zat];rfl
 | false =>
  have hc : k = 0 \/ k = 1 \/ k = 2 := by omega
  rcases hc with rfl | rfl | rfl
  ·have h' : Reads l p ([99, 105, 114, 99, 108, 101] :: [114, 111, 116, 97, 116, 105, 110, 103] :: [59] :: b) := h;have r1 := h'.tail;rw [zfM, h'.want, PR.zat, r1.isB, if_pos (by decide), r1.tail.want, PR.zat];rfl
  ·have h' : Reads l p ([99, 105, 114, 99, 108, 101] :: [98, 105, 100, 100, 105, 110, 103] :: [59] :: b) := h;have r1 := h'.tail;have r2 := r1.tail;rw [zfM, h'.want, PR.zat, r1.isB, r1.isB, if_neg (by decide), if_neg (by decide), r1.want, PR.zat, r2.isB, if_neg (by decide), r2.want, PR.zat];rfl
  ·have h' : Reads l p ([99, 105, 114, 99, 108, 101] :: [115, 97, 118, 105, 110, 103] :: [59] :: b) := h;have r1 := h'.tail;rw [zfM, h'.want, PR.zat, r1.isB, r1.isB, if_neg (by decide), if_pos (by decide), r1.tail.want, PR.zat];rfl
theorem zhK {l : List Tok} {p : Nat} {w : W8} {b : List W8} (h : Reads l p (w :: b)) : ziw l p w = .ok () p := by
 rw [ziw, if_pos (by rw [h.isB]; simp)]
end Go.Proofs.YthnemhfamhnfjaaGreatDoor
namespace Go.Proofs.YthnemhfamhnfjaaGreatDoor
open Go Go.VL
theorem zfh {lo hi n : Int} {l : List Int} (h : inB lo hi l = true) (hn : n ∈ l) : lo <= n /\ n <= hi := by
 rw [inB, Bool.not_eq_true', List.any_eq_false] at h;have := h n hn;simp at this;omega
theorem zol {l : List Tok} {p : Nat} {w : W8} {e : Exp} {b : List W8} (h : Reads l p (zbm w e ++ b)) : Reads l p (w :: (zaS e 0 ++ [59] :: b)) := by
 simpa [zbm] using h
end Go.Proofs.YthnemhfamhnfjaaGreatDoor
namespace Go.Proofs.YthnemhfamhnfjaaGreatDoor
open Go Go.VL
theorem zjv {w : W8} {n : Int} {bh : List W8} (hw : GoodW w) (h0 : 0 <= n) (h1 : n <= 1000) (hb : AllGood bh) : AllGood (zjw w n bh) := by
 rw [zjw];split
 ·exact AllGood.nil
 ·exact AllGood.cons hw (AllGood.cons (ziF h0 (by omega)) (hb.app (AllGood.cons zbP.2.2.2.1 AllGood.nil)))
theorem zn4 (k : Int) (s : Bool) : AllGood (zfg k s) := by
 rw [zfg];split
 ·exact AllGood.cons (zaR (by decide)) (AllGood.cons (zaR (by decide)) (AllGood.cons (zaR (by decide)) (AllGood.cons zbP.2.2.2.1 AllGood.nil)))
 ·refine AllGood.cons (zaR (by decide)) (AllGood.cons ?_ (AllGood.cons zbP.2.2.2.1 AllGood.nil));split
  ·exact zaR (by decide)
  ·split <;> exact zaR (by decide)
theorem zhh {w : W8} {e : Exp} (hw : GoodW w) (he : zaC 12 e = true) : AllGood (zbm w e) :=
 AllGood.cons hw ((zjc 12 e he 0).app (AllGood.cons zbP.2.2.2.1 AllGood.nil))
theorem zgH {w : W8} {e : Exp} (hw : GoodW w) (he : zaC 12 e = true) : AllGood (restW w e) := by
 unfold restW;split
 ·exact AllGood.nil
 ·exact zhh hw he
end Go.Proofs.YthnemhfamhnfjaaGreatDoor
namespace Go.Proofs.YthnemhfamhnfjaaGreatDoor
open Go Go.VL
def zec (ws : List W8) : List (W8 × W8) := ws.map fun w => (w, if w = [59] then [10] else [32])
theorem zlb (ws : List W8) : (zec ws).map (·.1) = ws := by simp [zec, Function.comp_def]
theorem zlc (a b : List W8) : zec (a ++ b) = zec a ++ zec b := by simp [zec]
theorem zeu : ∀ a b : List (W8 × W8), zbw (a ++ b) = zbw a ++ zbw b
 | [], b => rfl
 | x :: a, b => by rw [List.cons_append, zbw, zbw, zeu a b]; simp
theorem zg1 : ∀ ws : List W8, ws ≠ [] -> (∀ w ∈ ws, w ≠ [59]) -> zbw (zec (ws ++ [[59]])) = zbs ws ++ [32, 59, 10]
 | [], h, _ => absurd rfl h
 | [w], _, h => by
  have := h w (by simp);simp [zec, zbw, zbs, spW, this]
 | w :: v :: l, _, h => by
  have h1 := h w (by simp);have ih := zg1 (v :: l) (by simp) fun x hx => h x (List.mem_cons_of_mem _ hx);have e : zec (w :: v :: l ++ [[59]]) = (w, [32]) :: zec (v :: l ++ [[59]]) := by simp [zec, h1]
  rw [e, zbw, ih, zaY];simp
def NoSemi (ws : List W8) : Prop := ∀ w ∈ ws, w ≠ [59]
theorem NoSemi.nil : NoSemi [] := fun _ h => by cases h
theorem NoSemi.cons {w : W8} {ws : List W8} (h : w ≠ [59]) (h2 : NoSemi ws) : NoSemi (w :: ws) := fun x hx => by
 rcases List.mem_cons.1 hx with rfl | hx
 ·exact h
 ·exact h2 x hx
theorem NoSemi.app {a b : List W8} (h : NoSemi a) (h2 : NoSemi b) : NoSemi (a ++ b) := fun x hx => by
 rcases List.mem_append.1 hx with hx | hx
 ·exact h x hx
 ·exact h2 x hx
theorem znv {e : Exp} (h : NoSemi (zaV e)) (least : Int) : NoSemi (zaS e least) := by
 rw [zaS, zoF];split
 ·exact (h.app (NoSemi.cons (by decide) NoSemi.nil)).cons (by decide)
 ·exact h
theorem znE {s : W8} (h : zbO s = true) : s ≠ [59] := fun e => by rw [e] at h; revert h; decide
theorem zjT {n : Int} (h0 : 0 <= n) (h1 : n <= 1099511627776) : Lib.itoa n ≠ [59] := fun e => by
 have := (zgt h0 h1).1;rw [e] at this
 revert this
 decide
theorem zoY {o : Opr} (ho : o ∈ oprs) : o.text ≠ [59] := by
 simp only [oprs, List.mem_cons, List.mem_nil_iff, or_false] at ho;rcases ho with rfl | rfl | rfl | rfl | rfl | rfl | rfl | rfl <;> decide
theorem zjb : ∀ (d : Nat) (e : Exp), zaC d e = true -> ∀ least, NoSemi (zaS e least)
 | 0, e, h => by rw [zaC] at h; cases h
 | d + 1, .mk op n u s args, h => by
  intro least;refine znv ?_ least;rcases zb9 h with ⟨rfl, rfl, rfl, hn⟩ | ⟨rfl, rfl, rfl, rfl, hn⟩ | ⟨rfl, rfl, rfl, ha, h3⟩
  ·have hb : zaV (.mk 0 n u [] []) = zdh n u := by rw [zaV, zcJ, if_pos rfl]
   obtain ⟨hu0, hu1, hn0, hn2, hn1⟩ := zgU hn;rw [hb, zdh];split
   ·refine NoSemi.cons ?_ NoSemi.nil;split <;> decide
   ·refine NoSemi.cons (zjT hn0 hn2) ?_;split
    ·exact NoSemi.cons (by decide) NoSemi.nil
    ·split
     ·exact NoSemi.cons (by decide) NoSemi.nil
     ·split
      ·exact NoSemi.cons (by decide) (NoSemi.cons (by decide) NoSemi.nil)
      ·exact NoSemi.nil
  ·have hb : zaV (.mk 1 0 0 s []) = [s] := by rw [zaV, zcJ, if_neg (by decide), if_pos rfl]
   rw [hb];exact NoSemi.cons (znE hn) NoSemi.nil
  ·have hm : ∀ x ∈ args, ∀ least, NoSemi (zaS x least) := fun x hx => zjb d x (ha x hx);rcases h3 with ⟨rfl, hl⟩ | ⟨rfl, hl⟩ | ⟨g0, g1, g12, g13, g2, g3, hl⟩
   ·obtain ⟨a, rfl⟩ := zkT hl;rw [zfs];exact (hm a (by simp) 3).cons (by decide)
   ·obtain ⟨a, b, c, rfl⟩ := zkR hl;rw [zhm];exact ((hm a (by simp) 0).app (((hm b (by simp) 0).app ((hm c (by simp) 0).cons (by decide))).cons (by decide))).cons (by decide)
   ·obtain ⟨a, b, rfl⟩ := zkS hl;have hab := ((hm a (by simp) 0).app (((hm b (by simp) 0).app (NoSemi.cons (w := [41]) (by decide) NoSemi.nil)).cons (w := [44]) (by decide))).cons (w := [40]) (by decide);by_cases h6 : op = 6
    ·subst h6;rw [zft];exact hab.cons (by decide)
    ·by_cases h7 : op = 7
     ·subst h7;rw [zfu];exact hab.cons (by decide)
     ·obtain ⟨o, ho, rfl⟩ := zgS (op := op) (by omega) (by omega) h6 h7;rw [zfr ho];exact (hm a (by simp) _).app ((hm b (by simp) _).cons (zoY ho))
theorem zkX {w : W8} {e : Exp} (hw : w ≠ [59]) (he : zaC 12 e = true) : zbw (zec (zbm w e)) = w ++ [32] ++ zbs (zaS e 0) ++ [32, 59, 10] := by
 have hs := zjb 12 e he 0;have hne := zne e he;have : zbm w e = (w :: zaS e 0) ++ [[59]] := by simp [zbm]
 rw [this, zg1 _ (by simp) (NoSemi.cons hw hs)];obtain ⟨v, l, hv⟩ : ∃ v l, zaS e 0 = v :: l := by
  cases hc : zaS e 0 with
  | nil => exact absurd hc hne
  | cons v l => exact ⟨v, l, rfl⟩
 rw [hv, zaY]
end Go.Proofs.YthnemhfamhnfjaaGreatDoor
namespace Go.Proofs.YthnemhfamhnfjaaGreatDoor
open Go Go.VL
def txt (e : Exp) (least : Int) : W8 := zbs (zaS e least)
theorem za4 (w : W8) : zbs [w] = w := by simp [zbs, spW, zbw]
theorem zbC {w : W8} {l : List W8} (h : l ≠ []) : zbs (w :: l) = w ++ [32] ++ zbs l := by
 cases l with
 | nil => exact absurd rfl h
 | cons v l => exact zaY w v l
theorem zki {d : Nat} {e : Exp} (h : zaC d e = true) : zaV e ≠ [] := by
 cases d with
 | zero => rw [zaC] at h; cases h
 | succ d =>
  obtain ⟨op, n, u, s, args⟩ := e;rcases zb9 h with ⟨rfl, rfl, rfl, hn⟩ | ⟨rfl, rfl, rfl, rfl, hn⟩ | ⟨rfl, rfl, rfl, ha, ⟨rfl, hl⟩ | ⟨rfl, hl⟩ | ⟨g0, g1, g12, g13, g2, g3, hl⟩⟩
  ·rw [zaV, zcJ, if_pos rfl, zdh];split <;> simp
  ·rw [zaV, zcJ, if_neg (by decide), if_pos rfl]; simp
  ·obtain ⟨a, rfl⟩ := zkT hl;rw [zfs]; simp
  ·obtain ⟨a, b, c, rfl⟩ := zkR hl;rw [zhm]; simp
  ·obtain ⟨a, b, rfl⟩ := zkS hl;by_cases h6 : op = 6
   ·subst h6; rw [zft]; simp
   ·by_cases h7 : op = 7
    ·subst h7; rw [zfu]; simp
    ·obtain ⟨o, ho, rfl⟩ := zgS (by omega) (by omega) h6 h7;rw [zfr ho]; simp
theorem zcU {d : Nat} {e : Exp} (h : zaC d e = true) (least : Int) : zaS e least ≠ [] := by
 rw [zaS, zoF];split
 ·simp
 ·exact zki h
theorem zgm {d : Nat} {e : Exp} (h : zaC d e = true) {least : Int} (hl : zbZ e.op < least) : txt e least = [40, 32] ++ zbs (zaV e) ++ [32, 41] := by
 rw [txt, zaS, zoF, if_pos hl];simp only [List.cons_append];rw [zbC (by simp), zcF _ _ (zki h) (by simp), za4];simp
theorem zcS {e : Exp} {least : Int} (hl : ¬ zbZ e.op < least) : txt e least = zbs (zaV e) := by
 rw [txt, zaS, zoF, if_neg hl]
theorem zn7 {d : Nat} {a b c : Exp} (ha : zaC d a = true) (hb : zaC d b = true) (hc : zaC d c = true) :
  zbs (zaV (.mk 13 0 0 [] [a, b, c])) = [105, 102, 32] ++ txt a 0 ++ [32, 116, 104, 101, 110, 32] ++ txt b 0 ++ [32, 101, 108, 115, 101, 32] ++ txt c 0 := by
 rw [zhm, zbC (by simp), zcF _ _ (zcU ha 0) (by simp), zbC (by simp), zcF _ _ (zcU hb 0) (by simp), zbC (zcU hc 0)];simp [txt]
theorem zlt {d : Nat} {a : Exp} (ha : zaC d a = true) : zbs (zaV (.mk 12 0 0 [] [a])) = [110, 111, 116, 32] ++ txt a 3 := by
 rw [zfs, zbC (zcU ha 3)];simp [txt]
theorem zlu {d : Nat} {a b : Exp} (ha : zaC d a = true) (hb : zaC d b = true) : zbs (zaV (.mk 6 0 0 [] [a, b])) = [109, 105, 110, 32, 40, 32] ++ txt a 0 ++ [32, 44, 32] ++ txt b 0 ++ [32, 41] := by
 rw [zft, zbC (by simp), zbC (by simp), zcF _ _ (zcU ha 0) (by simp), zbC (by simp), zcF _ _ (zcU hb 0) (by simp), za4];simp [txt]
theorem zlv {d : Nat} {a b : Exp} (ha : zaC d a = true) (hb : zaC d b = true) : zbs (zaV (.mk 7 0 0 [] [a, b])) = [109, 97, 120, 32, 40, 32] ++ txt a 0 ++ [32, 44, 32] ++ txt b 0 ++ [32, 41] := by
 rw [zfu, zbC (by simp), zbC (by simp), zcF _ _ (zcU ha 0) (by simp), zbC (by simp), zcF _ _ (zcU hb 0) (by simp), za4];simp [txt]
theorem zeE {d : Nat} {a b : Exp} {o : Opr} (ho : o ∈ oprs) (ha : zaC d a = true) (hb : zaC d b = true) :
  zbs (zaV (.mk o.op 0 0 [] [a, b])) = txt a (if o.form = 4 then 5 else o.form) ++ [32] ++ o.text ++ [32] ++ txt b (o.form + 1) := by
 rw [zfr ho, zcF _ _ (zcU ha _) (by simp), zbC (zcU hb _)];simp [txt]
def SB : Nat -> Nat
 | 0 => 0
 | d + 1 => 3 * SB d + 200
theorem ziA {n : Int} (h0 : 0 <= n) (h1 : n <= 1099511627776) : (Lib.itoa n).length <= 13 := by
 rw [Lib.itoa, if_neg (by omega)];have hlt : n.toNat < 10 ^ (12 + 1) := by
  have : (10 : Nat) ^ 13 = 10000000000000 := by decide
  omega
 exact zfp n.toNat 12 hlt
theorem zny {n u : Int} (h : zo2 (.mk 0 n u [] []) = true) : (zbs (zdh n u)).length <= 30 := by
 obtain ⟨hu0, hu1, hn0, hn2, hn1⟩ := zgU h;have hi := ziA hn0 hn2;rw [zdh];split
 ·rw [za4]; split <;> simp
 ·split
  ·rw [zaY, za4]; simp; omega
  ·split
   ·rw [zaY, za4]; simp; omega
   ·split
    ·rw [zaY, zaY, za4]; simp; omega
    ·rw [za4]; omega
theorem ziv {s : W8} (h : zbO s = true) : s.length <= 20 := by
 simp only [zbO, Bool.and_eq_true] at h;have h := h.1;cases s with
 | nil => simp
 | cons c r =>
  simp only [zeU, Bool.and_eq_true, decide_eq_true_eq] at h;exact h.1.2
theorem znu {o : Opr} (ho : o ∈ oprs) : o.text.length <= 3 := by
 simp only [oprs, List.mem_cons, List.not_mem_nil, or_false] at ho;rcases ho with rfl | rfl | rfl | rfl | rfl | rfl | rfl | rfl <;> decide
theorem zlL : ∀ (d : Nat) (e : Exp), zaC d e = true -> (zbs (zaV e)).length + 4 <= SB d
 | 0, e, h => by rw [zaC] at h; cases h
 | d + 1, .mk op n u s args, h => by
  have hx : ∀ x : Exp, zaC d x = true -> ∀ least, (txt x least).length <= SB d := fun x hx least => by
   have h1 := zlL d x hx;by_cases hl : zbZ x.op < least
   ·rw [zgm hx hl]; simp; omega
   ·rw [zcS hl]; omega
  rw [SB];rcases zb9 h with ⟨rfl, rfl, rfl, hn⟩ | ⟨rfl, rfl, rfl, rfl, hn⟩ | ⟨rfl, rfl, rfl, ha, ⟨rfl, hl⟩ | ⟨rfl, hl⟩ | ⟨g0, g1, g12, g13, g2, g3, hl⟩⟩
  ·rw [zaV, zcJ, if_pos rfl];have := zny hn;omega
  ·rw [zaV, zcJ, if_neg (by decide), if_pos rfl, za4];have := ziv hn;omega
  ·obtain ⟨a, rfl⟩ := zkT hl;have h1 := ha a (by simp);rw [zlt h1];have := hx a h1 3;simp;omega
  ·obtain ⟨a, b, c, rfl⟩ := zkR hl;have h1 := ha a (by simp);have h2 := ha b (by simp);have h3 := ha c (by simp);rw [zn7 h1 h2 h3];have := hx a h1 0;have := hx b h2 0;have := hx c h3 0;simp;omega
  ·obtain ⟨a, b, rfl⟩ := zkS hl;have h1 := ha a (by simp);have h2 := ha b (by simp);by_cases h6 : op = 6
   ·subst h6;rw [zlu h1 h2];have := hx a h1 0;have := hx b h2 0;simp;omega
   ·by_cases h7 : op = 7
    ·subst h7;rw [zlv h1 h2];have := hx a h1 0;have := hx b h2 0;simp;omega
    ·obtain ⟨o, ho, rfl⟩ := zgS (by omega) (by omega) h6 h7;rw [zeE ho h1 h2];have := hx a h1 (if o.form = 4 then 5 else o.form);have := hx b h2 (o.form + 1);have := znu ho;simp only [List.length_append, List.length_cons, List.length_nil];omega
theorem zr3 {d : Nat} (h : d <= 12) : SB d <= 53144000 := by
 have key : ∀ n, n <= 12 -> SB n <= 53144000 := by decide
 exact key d h
theorem zct {d : Nat} {e : Exp} (h : zaC d e = true) (hd : d <= 12) (least : Int) : (txt e least).length <= 53144000 := by
 have h1 := zlL d e h;have h2 := zr3 hd;by_cases hl : zbZ e.op < least
 ·rw [zgm h hl]; simp; omega
 ·rw [zcS hl]; omega
end Go.Proofs.YthnemhfamhnfjaaGreatDoor
namespace Go.Proofs.YthnemhfamhnfjaaGreatDoor
open Go Go.VL
theorem znF {l : List Tok} {p q : Nat} {w : W8} {x : Unit} (h : ziw l p w = .ok x q) : q = p /\ isB l p w = true := by
 unfold ziw at h;split at h
 ·cases h; exact ⟨rfl, by assumption⟩
 ·cases h
def zmW (l : List Tok) (p : Nat) (b : Bool) (e : Int) : PR Unit := if b = true then .ok () p else .stop (zcR l p) e
theorem zhj (l : List Tok) (p : Nat) (b : Bool) (e : Int) (i nx : Nat) (hi : i < nx) (hp : p < l.length) (hl : TokOK l) :
  RetX Tryz.prog 42 [.ptr i 0, .u (.bool b), .u (.int .i64 e)] [(i, pOb l p)] nx (PPost l i nx (fun _ => .tup []) (zmW l p b e)) := by
 obtain ⟨t, ht⟩ : ∃ t, l[p]? = some t := ⟨_, List.getElem?_eq_getElem hp⟩;have hpa : zcR l p = t.pos := by unfold zcR; rw [ht]
 unfold zmW;cases b with
 | true => exact zdF l p e i nx hi
 | false => rw [if_neg (by simp), hpa]; exact zcG l p t e i nx hi ht hl.len
theorem zlf (l : List Tok) (p : Nat) (w : W8) (i nx : Nat) (hi : i < nx) (hp : p < l.length) (hl : TokOK l) :
  RetX Tryz.prog 42 [.ptr i 0, .u (.bool (isB l p w)), .u (.int .i64 12)] [(i, pOb l p)] nx (PPost l i nx (fun _ => .tup []) (ziw l p w)) := zhj l p (isB l p w) 12 i nx hi hp hl
theorem zop {l : List Tok} {p q : Nat} {b : Bool} {e : Int} {x : Unit} (h : zmW l p b e = .ok x q) : q = p /\ b = true := by
 unfold zmW at h;split at h
 ·cases h; exact ⟨rfl, by assumption⟩
 ·cases h
theorem zqz {l : List Tok} {p : Nat} {t : Tok} (ht : l[p]? = some t) (i nx : Nat) (hi : i < nx) (hl : TokOK l) :
  RetX Tryz.prog 42 [.ptr i 0, .u (.bool (decide (t.kind = 0))), .u (.int .i64 12)] [(i, pOb l p)] nx (PPost l i nx (fun _ => .tup []) (zpo l p)) := by
 have h := zhj l p (decide (t.kind = 0)) 12 i nx hi (lGE.1 ht).1 hl;have e : zmW l p (decide (t.kind = 0)) 12 = zpo l p := by
  unfold zmW zpo zcR;rw [ht];simp
 rwa [e] at h
theorem zrf {l : List Tok} {p q : Nat} {x : Unit} (h : zpo l p = .ok x q) : q = p := by
 unfold zpo at h;split at h
 ·split at h
  ·cases h; rfl
  ·cases h
 ·cases h
theorem zmn {l : List Tok} {f p : Nat} {acc : List Let} {t : Tok} (ht : l[p + 1]? = some t) : zfL l (f + 1) p acc = if isB l p [108, 101, 116] = true then
  (zmW l p (decide ((acc.length : Int) < 20)) 6).bind fun _ _ => (zmW l (p + 1) (decide (t.kind = 1) && zbO t.text) 12).bind fun _ _ =>
  (zmW l (p + 1) (!(acc.any fun x => decide (x.name = t.text))) 5).bind fun _ _ => (zbt l (p + 2) [[61]]).bind fun _ q => (zdz l q).bind fun e r => zfL l f r (acc ++ [⟨t.text, e⟩])
  else .ok acc p := by
 have hpa : zcR l (p + 1) = t.pos := by unfold zcR; rw [ht]
 rw [zfL, ht];unfold zmW;rw [hpa];by_cases h1 : isB l p [108, 101, 116] = true
 ·rw [if_pos h1, if_pos h1];by_cases h2 : acc.length < 20
  ·rw [if_pos h2, if_pos (by simp; omega), PR.zat];simp only;by_cases h3 : t.kind = 1 /\ zbO t.text = true
   ·have e3 : (decide (t.kind = 1) && zbO t.text) = true := by simp [h3]
    rw [if_pos h3, e3];simp only [if_true, PR.zat];by_cases h4 : (acc.any fun x => decide (x.name = t.text)) = true
    ·have e4 : (!acc.any fun x => decide (x.name = t.text)) = false := by rw [h4]; rfl
     rw [if_pos h4, e4];rfl
    ·have e4 : (!acc.any fun x => decide (x.name = t.text)) = true := by simpa using h4
     rw [if_neg h4, e4];rfl
   ·have e3 : (decide (t.kind = 1) && zbO t.text) = false := by simpa using h3
    rw [if_neg h3, e3];rfl
  ·have e2 : decide ((acc.length : Int) < 20) = false := by simp; omega
   rw [if_neg h2, e2];rfl
 ·rw [if_neg h1, if_neg h1]
theorem znR {l : List Tok} {f p : Nat} {acc : List Let} (h : ¬ isB l p [108, 101, 116] = true) : zfL l (f + 1) p acc = .ok acc p := by rw [zfL, if_neg h]
theorem PR.zdX {α β γ : Type} {r : PR α} {f : α -> Nat -> PR β} {g : β -> Nat -> PR γ} : (r.bind f).bind g = r.bind fun a p => (f a p).bind g := by cases r <;> rfl
def zgi (acc : List Let) : List (List U) := acc.map fun l => [.str l.name, .int .i64 l.body.op, .int .i64 l.body.n, .int .i64 l.body.unit, .str l.body.s, .sl (l.body.args.map Exp.row)]
theorem znS (acc : List Let) : (zgi acc).length = acc.length := by simp [zgi]
theorem zmo (acc : List Let) (s : W8) (e : Exp) : zgi (acc ++ [⟨s, e⟩]) = zgi acc ++ [[.str s, .int .i64 e.op, .int .i64 e.n, .int .i64 e.unit, .str e.s, .sl (e.args.map Exp.row)]] := by simp [zgi]
abbrev byD (b : By) : D := .u (.agg (za1 b))
end Go.Proofs.YthnemhfamhnfjaaGreatDoor
namespace Go.Proofs.YthnemhfamhnfjaaGreatDoor
open Go Go.VL
theorem itz : Lib.itoa 0 = [48] := by
 rw [Lib.itoa, if_neg (by decide)];show Lib.decDigits 0 = _;rw [Lib.decDigits, dif_pos (by decide)];rfl
theorem zb4 {l : List Tok} {p : Nat} {word : W8} {n : Int} {behind b : List W8} {least most : Int} (h : Reads l p (word :: Lib.itoa n :: ((behind ++ [[59]]) ++ b))) (h0 : 0 <= n) (hl : least <= n) (h3 : n <= most) (hm : most <= 1000) :
  ∃ q, zdw l p word least most (behind ++ [[59]]) = .ok n q /\ Reads l q b /\ q = p + (behind.length + 3) := by
 refine ⟨p + 1 + 1 + (behind ++ [[59]]).length, ?_, h.tail.tail.right, by simp; omega⟩;rw [zdw, if_pos (by rw [h.isB]; simp), zmu h0 (by omega) h.tail hl h3, PR.zat, zfB _ h.tail.tail, PR.zat]
theorem ziZ {l : List Tok} {p : Nat} {b : List W8} (h : Reads l p ([111, 114, 100, 101, 114] :: [106, 111, 105, 110] :: [59] :: b)) : ∃ q, zdP l p = .ok 0 q /\ Reads l q b /\ q = p + 3 := by
 refine ⟨p + 2 + 1, ?_, h.tail.tail.tail, by omega⟩;have h1 : isB l (p + 1) [106, 111, 105, 110] = true := by rw [h.tail.isB]; simp
 have h2 := zfB [[59]] (show Reads l (p + 2) ([[59]] ++ b) from h.tail.tail);rw [zdP, if_pos (by rw [h.isB]; simp)];simp only [ordersW, List.findIdx?_cons, h1, if_true];rw [h2, PR.zat];rfl
def zeroW : List W8 := [[103, 114, 97, 99, 101], [48], [100, 97, 121, 115], [59], [119, 97, 105, 116], [48], [100, 97, 121, 115], [59], [111, 114, 100, 101, 114], [106, 111, 105, 110], [59], [98, 97, 99, 107, 115], [48], [59], [118, 111, 105, 99, 101, 115], [48], [112, 101, 114], [109, 105, 108, 108, 101], [59], [106, 117, 114, 121], [48], [59], [102, 117, 110, 100], [48], [112, 101, 114], [109, 105, 108, 108, 101], [59]]
noncomputable def headW (b : By) : List W8 := zfg b.kind b.sld ++ (zjw [112, 101, 114, 105, 111, 100] b.period [[100, 97, 121, 115]] ++ zjw [108, 97, 115, 116] b.last [])
noncomputable def tailW (b : By) : List W8 := zbm [100, 117, 101] b.due ++ (restW [112, 97, 121] b.pay ++ (restW [99, 111, 118, 101, 114] b.cover ++ (restW [104, 111, 108, 100] b.hold ++ [])))
def zqT (b : By) : Prop := b.grace = 0 /\ b.wait = 0 /\ b.order = 0 /\ b.backs = 0 /\ b.voices = 0 /\ b.jury = 0 /\ b.fund = 0 /\ b.lets = [] /\ b.fine = nothingE
set_option maxHeartbeats 2000000 in
theorem zqD {l : List Tok} (hl : TokOK l) {b : By} (h : za3 b = true) (hg : zqT b) (hr : Reads l 0 (headW b ++ (zeroW ++ tailW b))) (hend : ∃ t, l[(headW b ++ (zeroW ++ tailW b)).length]? = some t /\ t.kind = 0) : ∃ q, zoH l = .ok b q := by
 simp only [za3, zfP, zfR, Bool.and_eq_true] at h;obtain ⟨⟨⟨⟨⟨⟨⟨⟨i1, i2⟩, i3⟩, i4⟩, i5⟩, hsl⟩, hlen⟩, hlets⟩, ⟨⟨⟨e1, e2⟩, e3⟩, e4⟩, e5⟩ := h;have hs1 : b.sld = true -> b.kind = 1 := fun hs => by
  rw [hs] at hsl;simpa using hsl
 have k := zfh i1 (n := b.kind) (by simp);have kperiod := zfh i3 (n := b.period) (by simp);have klast := zfh i3 (n := b.last) (by simp);obtain ⟨g1, g2, g3, g4, g5, g6, g7, g8, g9⟩ := hg;obtain ⟨te, hte, hke⟩ := hend;have hplen : (headW b ++ (zeroW ++ tailW b)).length = (zfg b.kind b.sld).length + (4 + (3 + (27 + ((zbm [100, 117, 101] b.due).length + ((restW [112, 97, 121] b.pay).length + ((restW [99, 111, 118, 101, 114] b.cover).length + (restW [104, 111, 108, 100] b.hold).length)))))) := by
  simp only [headW, tailW, zjw, if_neg (show b.period ≠ 0 by omega), if_neg (show b.last ≠ 0 by omega), List.length_append, List.length_cons, List.length_nil, show zeroW.length = 27 from rfl];omega
 rw [hplen] at hte;have hr1 : Reads l 0 (zfg b.kind b.sld ++ ([112, 101, 114, 105, 111, 100] :: Lib.itoa b.period :: (([[100, 97, 121, 115]] ++ [[59]]) ++ ([108, 97, 115, 116] :: Lib.itoa b.last :: (([] ++ [[59]]) ++ (zeroW ++ tailW b)))))) := by
  have e : headW b ++ (zeroW ++ tailW b) = zfg b.kind b.sld ++ ([112, 101, 114, 105, 111, 100] :: Lib.itoa b.period :: (([[100, 97, 121, 115]] ++ [[59]]) ++ ([108, 97, 115, 116] :: Lib.itoa b.last :: (([] ++ [[59]]) ++ (zeroW ++ tailW b))))) := by
   simp only [headW, zjw, if_neg (show b.period ≠ 0 by omega), if_neg (show b.last ≠ 0 by omega)];simp
  rwa [e] at hr
 obtain ⟨p0, hkind, r0, q0⟩ : ∃ q, zfM l 0 = .ok (b.kind, b.sld) q /\ Reads l q ([112, 101, 114, 105, 111, 100] :: Lib.itoa b.period :: (([[100, 97, 121, 115]] ++ [[59]]) ++ ([108, 97, 115, 116] :: Lib.itoa b.last :: (([] ++ [[59]]) ++ (zeroW ++ tailW b))))) /\ q = (zfg b.kind b.sld).length := ⟨_, zmt k.1 k.2 hs1 hr1, hr1.right, by omega⟩;have hmperiod := zhK r0;obtain ⟨p1, hperiod, r1, q1⟩ := zb4 (least := 1) (most := 1000) r0 (by omega) kperiod.1 kperiod.2 (by decide);have hmlast := zhK r1;obtain ⟨p2, hlast, r2, q2⟩ := zb4 (least := 1) (most := 1000) r1 (by omega) klast.1 klast.2 (by decide);have z0 := r2;rw [show zeroW ++ tailW b = [103, 114, 97, 99, 101] :: Lib.itoa 0 :: (([[100, 97, 121, 115]] ++ [[59]]) ++ ([119, 97, 105, 116] :: Lib.itoa 0 :: (([[100, 97, 121, 115]] ++ [[59]]) ++ ([111, 114, 100, 101, 114] :: [106, 111, 105, 110] :: [59] :: ([98, 97, 99, 107, 115] :: Lib.itoa 0 :: (([] ++ [[59]]) ++ ([118, 111, 105, 99, 101, 115] :: Lib.itoa 0 :: (([[112, 101, 114], [109, 105, 108, 108, 101]] ++ [[59]]) ++ ([106, 117, 114, 121] :: Lib.itoa 0 :: (([] ++ [[59]]) ++ ([102, 117, 110, 100] :: Lib.itoa 0 :: (([[112, 101, 114], [109, 105, 108, 108, 101]] ++ [[59]]) ++ (tailW b))))))))))))) from by rw [itz]; rfl] at z0;obtain ⟨p3, hgrace, z1, q3⟩ := zb4 (least := 0) (most := 1000) z0 (by decide) (by decide) (by decide) (by decide);obtain ⟨p4, hwait, z2, q4⟩ := zb4 (least := 0) (most := 1000) z1 (by decide) (by decide) (by decide) (by decide);obtain ⟨p5, horder, z3, q5⟩ := ziZ z2;obtain ⟨p6, hbacks, z4, q6⟩ := zb4 (least := 0) (most := 60) z3 (by decide) (by decide) (by decide) (by decide);obtain ⟨p7, hvoices, z5, q7⟩ := zb4 (least := 0) (most := 1000) z4 (by decide) (by decide) (by decide) (by decide);obtain ⟨p8, hjury, z6, q8⟩ := zb4 (least := 0) (most := 60) z5 (by decide) (by decide) (by decide) (by decide);obtain ⟨p9, hfund, z7, q9⟩ := zb4 (least := 0) (most := 1000) z6 (by decide) (by decide) (by decide) (by decide);have hP2 : p9 = (zfg b.kind b.sld).length + 34 := by simp only [List.length_cons, List.length_nil] at *; omega
 generalize p9 = P at *;have rdue := zol (show Reads l P (zbm [100, 117, 101] b.due ++ (restW [112, 97, 121] b.pay ++ (restW [99, 111, 118, 101, 114] b.cover ++ (restW [104, 111, 108, 100] b.hold ++ [])))) from z7);have hSd : StopAt l P [[100, 117, 101]] := StopAt.head rdue;have hwdue := rdue.want;have hdue := zgz hl e1 rdue.tail;have y0 := (show Reads l P (zbm [100, 117, 101] b.due ++ (restW [112, 97, 121] b.pay ++ (restW [99, 111, 118, 101, 114] b.cover ++ (restW [104, 111, 108, 100] b.hold ++ [])))) from z7).right;have y1 := y0.right;have y2 := y1.right;have hdl : P + 1 + (zaS b.due 0).length + 1 = P + (zbm [100, 117, 101] b.due).length := by simp only [zbm, List.length_cons, List.length_append, List.length_nil]; omega
 rw [hdl] at hdue;have hSe : StopAt l (P + (zbm [100, 117, 101] b.due).length + (restW [112, 97, 121] b.pay).length + (restW [99, 111, 118, 101, 114] b.cover).length + (restW [104, 111, 108, 100] b.hold).length) [] := by
  have e : P + (zbm [100, 117, 101] b.due).length + (restW [112, 97, 121] b.pay).length + (restW [99, 111, 118, 101, 114] b.cover).length + (restW [104, 111, 108, 100] b.hold).length = (zfg b.kind b.sld).length + (4 + (3 + (27 + ((zbm [100, 117, 101] b.due).length + ((restW [112, 97, 121] b.pay).length + ((restW [99, 111, 118, 101, 114] b.cover).length + (restW [104, 111, 108, 100] b.hold).length)))))) := by omega
  rw [e];exact fun v _ => (zpn hte hke).1 v
 obtain ⟨hhold, hS3⟩ := zfF hl e5 y2 hSe (by decide);obtain ⟨hcover, hS2⟩ := zfF hl e4 y1 hS3 (by decide);obtain ⟨hpay, hS1⟩ := zfF hl e3 y0 hS2 (by decide);have hfine : zcw l (P + (zbm [100, 117, 101] b.due).length) [102, 105, 110, 101] = .ok nothingE (P + (zbm [100, 117, 101] b.due).length) := by rw [zcw, hS1 [102, 105, 110, 101] (by decide)]; rfl
 have hlets2 : zfL l 21 P [] = .ok [] P := by rw [zfL, hSd [108, 101, 116] (by decide)]; rfl
 have hfin : zpo l (P + (zbm [100, 117, 101] b.due).length + (restW [112, 97, 121] b.pay).length + (restW [99, 111, 118, 101, 114] b.cover).length + (restW [104, 111, 108, 100] b.hold).length) = .ok () (P + (zbm [100, 117, 101] b.due).length + (restW [112, 97, 121] b.pay).length + (restW [99, 111, 118, 101, 114] b.cover).length + (restW [104, 111, 108, 100] b.hold).length) := by
  have e : P + (zbm [100, 117, 101] b.due).length + (restW [112, 97, 121] b.pay).length + (restW [99, 111, 118, 101, 114] b.cover).length + (restW [104, 111, 108, 100] b.hold).length = (zfg b.kind b.sld).length + (4 + (3 + (27 + ((zbm [100, 117, 101] b.due).length + ((restW [112, 97, 121] b.pay).length + ((restW [99, 111, 118, 101, 114] b.cover).length + (restW [104, 111, 108, 100] b.hold).length)))))) := by omega
  rw [e, zpo, hte];simp only;rw [if_pos hke]
 simp only [List.cons_append, List.nil_append] at hperiod hlast hgrace hwait hbacks hvoices hjury hfund;refine ⟨P + (zbm [100, 117, 101] b.due).length + (restW [112, 97, 121] b.pay).length + (restW [99, 111, 118, 101, 114] b.cover).length + (restW [104, 111, 108, 100] b.hold).length, ?_⟩;rw [zoH, hkind, PR.zat, hmperiod, PR.zat, hperiod, PR.zat, hmlast, PR.zat, hlast, PR.zat, hgrace, PR.zat, hwait, PR.zat, horder, PR.zat, hbacks, PR.zat, hvoices, PR.zat, hjury, PR.zat, hfund, PR.zat, hlets2, PR.zat, hwdue, PR.zat, hdue, PR.zat, hfine, PR.zat, hpay, PR.zat, hcover, PR.zat, hhold, PR.zat, hfin, PR.zat]
 congr 1
 cases b;simp only at g1 g2 g3 g4 g5 g6 g7 g8 g9;subst g1 g2 g3 g4 g5 g6 g7 g8 g9;rfl
end Go.Proofs.YthnemhfamhnfjaaGreatDoor
namespace Go.Proofs.YthnemhfamhnfjaaGreatDoor
open Go Go.VL
def zf2 : List (W8 × W8) -> Prop
 | [] => True
 | x :: l => GoodW x.1 /\ (∀ c ∈ x.2, za0 c = true) /\ (l ≠ [] -> x.2 ≠ [] \/ x.1 = [59]) /\ zf2 l
theorem znf (r : W8) : zeN ([59] ++ r) = .ok ⟨zeY [59], [59], zoG [59], 0⟩ := by
 have h := zbP.2.2.2.1;have h0 := h.next [] (fun c t he => by cases he)
 unfold zeN at h0 ⊢;simp only [List.cons_append, List.nil_append] at h0 ⊢;have e1 : zbl 59 = false := by decide
 have e2 : zaM 59 = false := by decide
 simp only [e1, e2, Bool.false_eq_true, if_false] at h0 ⊢;have e3 : ∀ r : W8, signsL.find? (fun x => x.isPrefixOf (59 :: r)) = some [59] := fun r => by
  simp [signsL, List.isPrefixOf]
 rw [e3] at h0 ⊢;exact h0
theorem zmF {l : List (W8 × W8)} (h : zf2 l) : ∀ c t, zbw l = c :: t -> za0 c = false := by
 cases l with
 | nil => intro c t he; cases he
 | cons x l =>
  intro c t he;have hg := h.1;rw [zbw] at he;cases hx : x.1 with
  | nil => exact absurd hx hg.ne
  | cons a r =>
   rw [hx] at he;cases he;exact hg.head _ _ hx
theorem zg4 : ∀ (l : List (W8 × W8)) (f : Nat) (s : W8) (p : Nat) (lead : W8), zf2 l -> (∀ c ∈ lead, za0 c = true) -> s.drop p = lead ++ zbw l -> l.length < f ->
  ∃ ts, zln f s p = .ok ts /\ ts.length = l.length + 1 /\ Reads ts 0 (l.map (·.1)) /\ ∃ t, ts[l.length]? = some t /\ t.kind = 0
 | l, 0, _, _, _, _, _, _, hf => by omega
 | [], f + 1, s, p, lead, hs, hl, hd, hf => by
  have hsp : zbE za0 (s.drop p) = lead.length := by rw [hd, zbE, zbw, zcT hl fun c t he => by cases he]
  have hdr : s.drop (p + zbE za0 (s.drop p)) = [] := by rw [hsp, <- List.drop_drop, hd, zbw]; simp
  rw [zln, hdr];refine ⟨_, rfl, rfl, fun i w hi => by simp at hi, _, rfl, rfl⟩
 | x :: l, f + 1, s, p, lead, hs, hl, hd, hf => by
  obtain ⟨hg, hb, hne, hs2⟩ := hs;have hsp : zbE za0 (s.drop p) = lead.length := by rw [hd, zbE, zcT hl (zmF (l := x :: l) ⟨hg, hb, hne, hs2⟩)]
  have hdr : s.drop (p + lead.length) = x.1 ++ (x.2 ++ zbw l) := by rw [<- List.drop_drop, hd, zbw]; simp
  have hn : zeN (x.1 ++ (x.2 ++ zbw l)) = .ok ⟨zeY x.1, x.1, zoG x.1, 0⟩ := by
   cases hx : x.2 with
   | nil =>
    cases l with
    | nil => exact hg.next _ fun c t he => by cases he
    | cons y l =>
     rcases hne (by simp) with h | h
     ·exact absurd hx h
     ·rw [h]; exact znf _
   | cons a r =>
    refine hg.next _ fun c t he => ?_
    cases he;exact hb _ (by rw [hx]; simp)
  have hd2 : s.drop (p + lead.length + x.1.length) = x.2 ++ zbw l := by rw [<- List.drop_drop, hdr]; simp
  obtain ⟨ts, h1, h2, h3, t, h4, h5⟩ := zg4 l f s (p + lead.length + x.1.length) x.2 hs2 hb hd2 (by simp at hf; omega);rw [zln, hsp];cases hw : x.1 ++ (x.2 ++ zbw l) with
  | nil =>
   have := hg.ne;simp at hw;exact absurd hw.1 this
  | cons c r =>
   rw [hdr, hw];rw [hw] at hn;simp only [hn, h1];refine ⟨_, rfl, by simp [h2], fun i w hi => ?_, t, by simpa using h4, h5⟩;cases i with
   | zero =>
    simp only [List.map_cons, List.getElem?_cons_zero, Option.some.injEq] at hi;subst hi;exact ⟨hg.ne, _, rfl, rfl, rfl, rfl⟩
   | succ i =>
    simp only [List.map_cons, List.getElem?_cons_succ] at hi;obtain ⟨q1, t', q2, q3⟩ := h3 i w hi;rw [Nat.zero_add] at q2 ⊢;exact ⟨q1, t', by simpa using q2, q3⟩
theorem zj4 : ∀ l : List (W8 × W8), zf2 l -> l.length <= (zbw l).length
 | [], _ => Nat.le_refl _
 | x :: l, h => by
  obtain ⟨hg, hb, hne, hs2⟩ := h;have := zj4 l hs2;have h1 := List.length_pos_iff.2 hg.ne;simp [zbw];omega
theorem zgF : ∀ l : List (W8 × W8), (∀ x ∈ l, GoodW x.1 /\ (∀ c ∈ x.2, za0 c = true) /\ (x.2 ≠ [] \/ x.1 = [59])) -> zf2 l
 | [], _ => trivial
 | x :: l, h => ⟨(h x (by simp)).1, (h x (by simp)).2.1, fun _ => (h x (by simp)).2.2, zgF l fun z hz => h z (List.mem_cons_of_mem _ hz)⟩
def zeroS : List (W8 × W8) := (zeroW.take 3).map (fun w => (w, [32])) ++ ([59], [10]) :: ((zeroW.drop 4).take 22).map (fun w => (w, [32])) ++ [([59], [])]
theorem zmZ : zeroS.map (·.1) = zeroW := by decide
theorem zmY : ∀ x ∈ zeroS, GoodW x.1 /\ (∀ c ∈ x.2, za0 c = true) /\ (x.2 ≠ [] \/ x.1 = [59]) := by
 have hd : ∀ x ∈ zeroS, (zeU x.1 = true \/ x.1 = Lib.itoa 0 \/ x.1 = [59]) /\ (∀ c ∈ x.2, za0 c = true) /\ (x.2 ≠ [] \/ x.1 = [59]) := by
  rw [itz];decide
 intro x hx;obtain ⟨h1, h2⟩ := hd x hx;refine ⟨?_, h2⟩;rcases h1 with h | h | h
 ·exact zaR h
 ·rw [h]; exact ziF (by decide) (by decide)
 ·rw [h]; exact zbP.2.2.2.1
theorem zmX {b : By} (h : za3 b = true) (hg : zqT b) (h1 : AllGood (headW b)) (h2 : AllGood (tailW b)) (hlen : (zbw (zec (headW b)) ++ (zbw zeroS ++ zbw (zec (tailW b)))).length <= 2000) :
  ∃ ts q, zkw (zbw (zec (headW b)) ++ (zbw zeroS ++ zbw (zec (tailW b)))) = .ok ts /\ zoH ts = .ok b q := by
 rw [<- zeu, <- zeu] at hlen ⊢;have hsep : ∀ ws, AllGood ws -> ∀ x ∈ zec ws, GoodW x.1 /\ (∀ c ∈ x.2, za0 c = true) /\ (x.2 ≠ [] \/ x.1 = [59]) := fun ws hw x hx => by
  obtain ⟨w, hm, rfl⟩ := List.mem_map.1 hx;refine ⟨hw w hm, ?_, .inl ?_⟩
  ·split <;> simp [za0]
  ·split <;> simp
 have hs : zf2 (zec (headW b) ++ (zeroS ++ zec (tailW b))) := zgF _ fun x hx => by
  rcases List.mem_append.1 hx with hx | hx
  ·exact hsep _ h1 x hx
  ·rcases List.mem_append.1 hx with hx | hx
   ·exact zmY x hx
   ·exact hsep _ h2 x hx
 have hll := zj4 _ hs;rw [zkw, if_neg (by omega)];obtain ⟨ts, q1, q2, q3, t, q4, q5⟩ := zg4 _ ((zbw (zec (headW b) ++ (zeroS ++ zec (tailW b)))).length + 1) (zbw (zec (headW b) ++ (zeroS ++ zec (tailW b)))) 0 [] hs (by simp) (by simp) (by omega);have hw : (zec (headW b) ++ (zeroS ++ zec (tailW b))).map (·.1) = headW b ++ (zeroW ++ tailW b) := by rw [List.map_append, List.map_append, zlb, zlb, zmZ]
 have hwl : (headW b ++ (zeroW ++ tailW b)).length = (zec (headW b) ++ (zeroS ++ zec (tailW b))).length := by rw [<- hw, List.length_map]
 rw [hw] at q3;have hok := zoP q2 ⟨t, q4, q5⟩ (by omega);obtain ⟨q, hb⟩ := zqD hok h hg q3 ⟨t, by rw [hwl]; exact q4, q5⟩;exact ⟨ts, q, q1, hb⟩
end Go.Proofs.YthnemhfamhnfjaaGreatDoor
namespace Go.Proofs.YthnemhfamhnfjaaGreatDoor
open Go Go.VL
attribute [local simp] HS zc2 zck evPure opd uOf zaH St.put St.at getK binD binI binS binB nilD aggD zhr zh0 lookD lookR zcz Go.VL.nextD zcC ziz zia zgs zcu mkV zdn zbo zby mapEff zeb zgf Key.kk shiftI arith unD convD zdO loadD cellsAt fieldAddrD fieldD indexAddrD indexD sliceD cutD lenD minmaxD nilCheckD buildD fillD zbR zdd zeM setAll zcK zeS zcq zhB zcn St.add zaQ zbI rowsOf zdJ zcD zak zac zaa zbn zdb zba entry zbK zbT valD zb3 zcx zhn zdl zdm zbU zbM zav zaX zbr delAll effD St.effS zc8 zbg za5 zda zbh za7 zcc za6 zaW zcd zcX zbD zb7 zbp zb5 zb6 zaJ mkD zbV zbB zbL zav zco D.ids Op.operands Call.operands zbG makeIfD makeFuncD typeAssertD zhZ zdx zdy zhD zcA IntKind.bits zcL List.take_of_length_le List.range_succ
attribute [local irreducible] V G H HD HD2 HD4 zkz RetX zao Eff CallP CallV EndOK Fun Ret FinOK LoopI LoopW EndW
theorem zlC (e : Exp) : Fun Tryz.prog 111 [.u (.agg e.row)] (· = .u (.int .i64 (zbZ e.op))) := by
 have hop := zd3;rw [Exp.row_eq];by_cases h1 : e.op = 13
 ·rw [zbZ, if_pos h1]
  (refine Fun.of_body Tryz.func111 rfl (by simp) fun Γ hn => ?_); simp only [entry, ziC, ziN, maC, maN, oA, Tryz.ntmps111]
  repeat' (first
  | ((first | refine zae ?_ | refine zaj ?_ | refine zah ?_ | refine zai ?_ | refine zaw ?_ | fail); simp [h1])
  | (refine zaq ?_; simp only [zao])
  | fail)
  (refine EndOK.val (.inr rfl) ?_; simp [zaG, zaf, zar, Tryz.results111])
 ·by_cases h2 : e.op = 12
  ·rw [zbZ, if_neg h1, if_pos h2]
   (refine Fun.of_body Tryz.func111 rfl (by simp) fun Γ hn => ?_); simp only [entry, ziC, ziN, maC, maN, oA, Tryz.ntmps111]
   repeat' (first
  | ((first | refine zae ?_ | refine zaj ?_ | refine zah ?_ | refine zai ?_ | refine zaw ?_ | fail); simp [h1, h2])
  | (refine zaq ?_; simp only [zao])
  | fail)
   (refine EndOK.val (.inr rfl) ?_; simp [zaG, zaf, zar, Tryz.results111])
  ·rw [zbZ, if_neg h1, if_neg h2];have hlen : oprs.length = 8 := rfl;generalize oprs = L at *
   (refine Fun.of_body Tryz.func111 rfl (by simp) fun Γ hn => ?_); simp only [entry, ziC, ziN, maC, maN, oA, Tryz.ntmps111]
   repeat' (first
  | ((first | refine zae ?_ | refine zaj ?_ | refine zah ?_ | refine zai ?_ | refine zaw ?_ | fail); simp [h1, h2, hlen])
  | (refine zap ?_; simp only [zao])
  | (refine CallP.fE (hop) (by first | rfl | fail) (by first | simp [h1, h2, hlen] <;> rfl | fail) ?_; (try simp [h1, h2, hlen]))
  | fail)
   refine zdL (α := { i : Nat // i <= 8 /\ ∀ o ∈ L.take i, decide (o.op = e.op) = false }) [1, 2, 11, 12] (fun x => [(13, .u (.int .i64 x.1))]) (fun x => [(0, .box [.u (.int .i64 e.op), .u (.int .i64 e.n), .u (.int .i64 e.unit), .u (.str e.s), .u (.sl (e.args.map Exp.row))])]) 1 (fun x => 8 - x.1) ⟨0, by omega, by simp⟩ ?_ ?_
   ·exact (Wk.cut rfl (by simp [hn, St.lp]) (by simp [wkO, St.lp, zaa, getK, Ob.under, D.under, zad, zag, hlen]) (by simp [wkU, St.lp, zan, zaa, getK, D.under, hlen]) (by simp [wkE, St.lp, zan, zaa, getK, hlen] <;> (try (intros; simp_all; done)) <;> (try (intros; omega)) <;> (try grind)))
   rintro ⟨i, hi, hb⟩;simp [St.lp, St.only, zan, zaa, getK];rcases hx : L[i]? with _ | o
   ·have hge : L.length <= i := by simpa using hx
    obtain rfl : i = 8 := by omega
    rw [List.take_of_length_le (by omega)] at hb;have hn0 : L.find? (fun o => decide (o.op = e.op)) = none := by rw [List.find?_eq_none]; intro o ho; simp [hb o ho]
    rw [hn0]
    repeat' (first
  | ((first | refine zae ?_ | refine zaj ?_ | refine zah ?_ | fail); simp [hx, hlen])
  | (refine zaq ?_; simp only [zao])
  | (refine zbA ?_; simp [zao])
  | fail)
    (refine EndOK.val (.inr rfl) ?_; simp [zaG, zaf, zar, Tryz.results111])
   ·have hlt : i < L.length := (lGE.1 hx).1;have hi8 : i < 8 := by omega
    have hxe : L[i]'hlt = o := (lGE.1 hx).2;by_cases hp : o.op = e.op
    ·have hf : L.find? (fun o => decide (o.op = e.op)) = some o := by
      rw [List.find?_eq_some_iff_getElem];refine ⟨by simpa using hp, i, hlt, (lGE.1 hx).2, fun j hj => ?_⟩;have := hb (L[j]'(by omega)) (by rw [List.mem_take_iff_getElem]; exact ⟨j, by omega, rfl⟩);simp [this]
     rw [hf]
     repeat' (first
  | ((first | refine zae ?_ | refine zaj ?_ | refine zah ?_ | refine zai ?_ | fail); simp [hx, hlen, hp, hi8, hxe])
  | ((first | refine zaq ?_ | refine zap ?_ | fail); simp only [zao])
  | (refine ⟨?_, by omega⟩)
  | (intro hc <;> (try (exfalso; omega)))
  | fail)
     (refine EndOK.val (.inr rfl) ?_; simp [zaG, zaf, zar, Tryz.results111])
    ·repeat' (first
  | ((first | refine zae ?_ | refine zaj ?_ | fail); simp [hx, hlen, hp, hi8, hxe])
  | (refine ⟨by omega, ?_⟩)
  | ((first | refine zah ?_ | refine zai ?_ | refine zax ?_ | fail); simp [hx, hlen, hp, hi8, hxe])
  | (refine zap ?_; simp only [zao])
  | (refine ⟨?_, by omega⟩)
  | (intro hc <;> (try (exfalso; omega)))
  | fail)
     refine LoopW.next ⟨i + 1, by omega, zbu (p := fun o : Opr => decide (o.op = e.op) = false) hx hb (by simpa using hp)⟩ (by simp; omega) ?_
     exact (Wk.cut rfl (by simp [hn, St.lp]) (by simp [wkO, St.lp, zaa, getK, Ob.under, D.under, zad, zag, hlen]) (by simp [wkU, St.lp, zan, zaa, getK, D.under, hlen]) (by simp [wkE, St.lp, zan, zaa, getK, hlen] <;> (try (intros; simp_all; done)) <;> (try (intros; omega)) <;> (try grind)))
theorem zmi (n u : Int) (h : zo2 (.mk 0 n u [] []) = true) : Fun Tryz.prog 113 [.u (.agg (Exp.mk 0 n u [] []).row)] (· = .u (.str (zbs (zdh n u)))) := by
 obtain ⟨hu0, hu1, hn0, hn2, hn1⟩ := zgU h;have hit := zlx n (by omega) (by omega);have hil := ziA hn0 hn2;rw [Exp.row, List.map_nil, zdh];generalize Lib.itoa n = T at *;have hil2 : T.length <= 1000 := by omega
 by_cases c0 : u = 0
 ·rw [if_pos c0];by_cases c1 : n = 1
  ·rw [if_pos c1, za4]
   (refine Fun.of_body Tryz.func113 rfl (by simp) fun Γ hn => ?_); simp only [entry, ziC, ziN, maC, maN, oA, Tryz.ntmps113]
   repeat' (first
  | ((first | refine zae ?_ | refine zaj ?_ | refine zah ?_ | refine zai ?_ | refine zaw ?_ | fail); simp [c0, c1])
  | (refine zaq ?_; simp only [zao])
  | (refine CallP.fE (hit) (by first | rfl | fail) (by first | simp [c0, c1] <;> rfl | fail) ?_; (try simp [c0, c1]))
  | fail)
   (refine EndOK.val (.inr rfl) ?_; simp [zaG, zaf, zar, Tryz.results113])
  ·rw [if_neg c1, za4]
   (refine Fun.of_body Tryz.func113 rfl (by simp) fun Γ hn => ?_); simp only [entry, ziC, ziN, maC, maN, oA, Tryz.ntmps113]
   repeat' (first
  | ((first | refine zae ?_ | refine zaj ?_ | refine zah ?_ | refine zai ?_ | refine zaw ?_ | fail); simp [c0, c1])
  | ((first | refine zaq ?_ | refine zap ?_ | fail); simp only [zao])
  | (refine CallP.fE (hit) (by first | rfl | fail) (by first | simp [c0, c1] <;> rfl | fail) ?_; (try simp [c0, c1]))
  | fail)
   (refine EndOK.val (.inr rfl) ?_; simp [zaG, zaf, zar, Tryz.results113])
 ·rw [if_neg c0];by_cases c3 : u = 3
  ·rw [if_pos c3, zaY, za4]
   (refine Fun.of_body Tryz.func113 rfl (by simp) fun Γ hn => ?_); simp only [entry, ziC, ziN, maC, maN, oA, Tryz.ntmps113]
   repeat' (first
  | ((first | refine zae ?_ | refine zaj ?_ | fail); simp [c0, c3])
  | (refine ⟨by omega, ?_⟩)
  | ((first | refine zah ?_ | refine zai ?_ | refine zaw ?_ | fail); simp [c0, c3])
  | (refine zaq ?_; simp only [zao])
  | (refine CallP.fE (hit) (by first | rfl | fail) (by first | simp [c0, c3] <;> rfl | fail) ?_; (try simp [c0, c3]))
  | fail)
   (refine EndOK.val (.inr rfl) ?_; simp [zaG, zaf, zar, Tryz.results113])
  ·rw [if_neg c3];by_cases c2 : u = 2
   ·rw [if_pos c2, zaY, za4]
    (refine Fun.of_body Tryz.func113 rfl (by simp) fun Γ hn => ?_); simp only [entry, ziC, ziN, maC, maN, oA, Tryz.ntmps113]
    repeat' (first
  | ((first | refine zae ?_ | refine zaj ?_ | fail); simp [c0, c2, c3])
  | (refine ⟨by omega, ?_⟩)
  | ((first | refine zah ?_ | refine zai ?_ | refine zaw ?_ | fail); simp [c0, c2, c3])
  | (refine zaq ?_; simp only [zao])
  | (refine CallP.fE (hit) (by first | rfl | fail) (by first | simp [c0, c2, c3] <;> rfl | fail) ?_; (try simp [c0, c2, c3]))
  | fail)
    (refine EndOK.val (.inr rfl) ?_; simp [zaG, zaf, zar, Tryz.results113])
   ·rw [if_neg c2];by_cases c4 : u = 4
    ·rw [if_pos c4, zaY, zaY, za4]
     (refine Fun.of_body Tryz.func113 rfl (by simp) fun Γ hn => ?_); simp only [entry, ziC, ziN, maC, maN, oA, Tryz.ntmps113]
     repeat' (first
  | ((first | refine zae ?_ | refine zaj ?_ | fail); simp [c0, c2, c3, c4])
  | (refine ⟨by omega, ?_⟩)
  | ((first | refine zah ?_ | refine zai ?_ | refine zaw ?_ | fail); simp [c0, c2, c3, c4])
  | (refine zaq ?_; simp only [zao])
  | (refine CallP.fE (hit) (by first | rfl | fail) (by first | simp [c0, c2, c3, c4] <;> rfl | fail) ?_; (try simp [c0, c2, c3, c4]))
  | fail)
     (refine EndOK.val (.inr rfl) ?_; simp [zaG, zaf, zar, Tryz.results113])
    ·rw [if_neg c4, za4]
     (refine Fun.of_body Tryz.func113 rfl (by simp) fun Γ hn => ?_); simp only [entry, ziC, ziN, maC, maN, oA, Tryz.ntmps113]
     repeat' (first
  | ((first | refine zae ?_ | refine zaj ?_ | refine zah ?_ | refine zai ?_ | refine zaw ?_ | fail); simp [c0, c2, c3, c4])
  | ((first | refine zaq ?_ | refine zap ?_ | fail); simp only [zao])
  | (refine CallP.fE (hit) (by first | rfl | fail) (by first | simp [c0, c2, c3, c4] <;> rfl | fail) ?_; (try simp [c0, c2, c3, c4]))
  | fail)
     (refine EndOK.val (.inr rfl) ?_; simp [zaG, zaf, zar, Tryz.results113])
theorem zlD (s : W8) : Fun Tryz.prog 61 [.u (.str s)] (· = if 2000 < s.length then .tup [.u (.str []), .u (.int .i64 6)] else .tup [.u (.str s), .u (.int .i64 0)]) := by
 by_cases h1 : 2000 < s.length
 ·have h2 : (2000 : Int) < s.length := by omega
  rw [if_pos h1]
  (refine Fun.of_body Tryz.func61 rfl (by simp) fun Γ hn => ?_); simp only [entry, ziC, ziN, maC, maN, oA, Tryz.ntmps61]
  repeat' (first
  | ((first | refine zae ?_ | refine zaj ?_ | refine zah ?_ | refine zai ?_ | fail); simp [h2])
  | (refine zaq ?_; simp only [zao])
  | fail)
  (refine EndOK.val (.inr rfl) ?_; simp [zaG, zaf, zar, Tryz.results61])
 ·have h2 : ¬ (2000 : Int) < s.length := by omega
  rw [if_neg h1]
  (refine Fun.of_body Tryz.func61 rfl (by simp) fun Γ hn => ?_); simp only [entry, ziC, ziN, maC, maN, oA, Tryz.ntmps61]
  repeat' (first
  | ((first | refine zae ?_ | refine zaj ?_ | refine zah ?_ | refine zai ?_ | fail); simp [h2])
  | ((first | refine zaq ?_ | refine zap ?_ | fail); simp only [zao])
  | fail)
  (refine EndOK.val (.inr rfl) ?_; simp [zaG, zaf, zar, Tryz.results61])
abbrev zlQ (e : Exp) : Prop := ∀ least : Int, Fun Tryz.prog 59 [.u (.agg e.row), .u (.int .i64 least)] (· = .u (.str (txt e least)))
theorem zdK (op n u : Int) (s : W8) (args : List Exp) (i : Nat) (a : Exp) (least : Int) (ha : args[i]? = some a) (h : zlQ a) :
  Fun Tryz.prog 112 [.u (.int .i64 i), .u (.int .i64 least), .u (.row [.int .i64 op, .int .i64 n, .int .i64 u, .str s, .sl (args.map Exp.row)] 0)] (· = .u (.str (txt a least))) := by
 have hs := h least;rw [Exp.row_eq] at hs;generalize txt a least = T at *;have hi := (lGE.1 ha).1
 (refine Fun.of_body Tryz.func112 rfl (by simp) fun Γ hn => ?_); simp only [entry, ziC, ziN, maC, maN, oA, Tryz.ntmps112]
 have hlt : (i : Int) < args.length := by omega
 repeat' (first
  | ((first | refine zae ?_ | refine zaj ?_ | refine zah ?_ | fail); simp [ha, hlt, Exp.row_eq])
  | (refine zaq ?_; simp only [zao])
  | (refine CallP.fE (hs) (by first | rfl | fail) (by first | simp [ha, hlt, Exp.row_eq] <;> rfl | fail) ?_; (try simp [ha, hlt, Exp.row_eq]))
  | fail)
 (refine EndOK.val (.inr rfl) ?_; simp [zaG, zaf, zar, Tryz.results112])
theorem zo0 (o : Opr) (op n u : Int) (s : W8) (g : U) : Fun Tryz.prog 114 (zqX o :: [U.row [.int .i64 op, .int .i64 n, .int .i64 u, .str s, g] 0].map .u) (· = .u (.bool (decide (o.op = op)))) := by
 simp only [List.map_cons, List.map_nil, zqX]
 (refine Fun.of_body Tryz.func114 rfl (by simp) fun Γ hn => ?_); simp only [entry, ziC, ziN, maC, maN, oA, Tryz.ntmps114]
 repeat' (first
  | ((first | refine zae ?_ | refine zaj ?_ | refine zah ?_ | fail); simp)
  | (refine zaq ?_; simp only [zao])
  | fail)
 (refine EndOK.val (.inr rfl) ?_; simp [zaG, zaf, zar, Tryz.results114])
theorem zo1 (op n u : Int) (s : W8) (g : U) : Fun Tryz.prog 96 [.u (zma oprs), .fnc (.func 114) [.u (.row [.int .i64 op, .int .i64 n, .int .i64 u, .str s, g] 0)]]
  (· = .u (.int .i64 (zhv (fun o => decide (o.op = op)) oprs 0))) :=
 zhU oprs 114 [U.row [.int .i64 op, .int .i64 n, .int .i64 u, .str s, g] 0] (fun o => decide (o.op = op)) (fun o _ => zo0 o op n u s g) rfl (fun o => rfl)
theorem znd {d : Nat} {e : Exp} (he : zaC d e = true) (hd : d <= 12) (h0 : Fun Tryz.prog 59 [.u (.agg e.row), .u (.int .i64 0)] (· = .u (.str (txt e 0)))) {least : Int} (hl : zbZ e.op < least) (h00 : ¬ zbZ e.op < 0) :
  Fun Tryz.prog 59 [.u (.agg e.row), .u (.int .i64 least)] (· = .u (.str (txt e least))) := by
 have hf := zlC e;have hlen := zct he hd 0;rw [zgm he hl];rw [zcS h00] at h0 hlen;rw [Exp.row_eq] at *;generalize zbs (zaV e) = T at *;generalize zbZ e.op = F at *;have hT : T.length <= 9223372036854775000 := by omega
 (refine Fun.of_body Tryz.func59 rfl (by simp) fun Γ hn => ?_); simp only [entry, ziC, ziN, maC, maN, oA, Tryz.ntmps59]
 repeat' (first
  | ((first | refine zae ?_ | refine zaj ?_ | fail); simp [hl])
  | (refine ⟨by omega, ?_⟩)
  | ((first | refine zah ?_ | refine zai ?_ | fail); simp [hl])
  | (refine zaq ?_; simp only [zao])
  | (refine CallP.fE (hf) (by first | rfl | fail) (by first | simp [hl] <;> rfl | fail) ?_; (try simp [hl]))
  | (refine CallP.fE (h0) (by first | rfl | fail) (by first | simp [hl] <;> rfl | fail) ?_; (try simp [hl]))
  | fail)
 (refine EndOK.val (.inr rfl) ?_; simp [zaG, zaf, zar, Tryz.results59])
theorem zjd : ∀ (d : Nat), d <= 12 -> ∀ e : Exp, zaC d e = true -> ∀ least : Int, ¬ zbZ e.op < least -> (∀ x ∈ e.args, zaC (d - 1) x = true -> zlQ x) ->
  Fun Tryz.prog 59 [.u (.agg e.row), .u (.int .i64 least)] (· = .u (.str (zbs (zaV e))))
 | 0, _, e, h, _, _, _ => by rw [zaC] at h; cases h
 | d + 1, hd, .mk op n u s args, h, least, hl, ih => by
  have hf := zlC (.mk op n u s args);simp only [Exp.op] at hl hf;rw [Exp.row] at hf ⊢;rcases zb9 h with ⟨rfl, rfl, rfl, hn⟩ | ⟨rfl, rfl, rfl, rfl, hn⟩ | ⟨rfl, rfl, rfl, ha, ⟨rfl, hl3⟩ | ⟨rfl, hl3⟩ | ⟨g0, g1, g12, g13, g2, g3, hl3⟩⟩
  ·have h1 := zmi n u hn;rw [zaV, zcJ, if_pos rfl];rw [Exp.row] at h1;simp only [List.map_nil] at *;generalize zbs (zdh n u) = T at *
   (refine Fun.of_body Tryz.func59 rfl (by simp) fun Γ hn => ?_); simp only [entry, ziC, ziN, maC, maN, oA, Tryz.ntmps59]
   repeat' (first
  | ((first | refine zae ?_ | refine zaj ?_ | refine zah ?_ | refine zai ?_ | refine zaw ?_ | fail); simp [hl])
  | ((first | refine zaq ?_ | refine zap ?_ | fail); simp only [zao])
  | (refine CallP.fE (hf) (by first | rfl | fail) (by first | simp [hl] <;> rfl | fail) ?_; (try simp [hl]))
  | (refine CallP.fE (h1) (by first | rfl | fail) (by first | simp [hl] <;> rfl | fail) ?_; (try simp [hl]))
  | fail)
   (refine EndOK.val (.inr rfl) ?_; simp [zaG, zaf, zar, Tryz.results59])
  ·rw [zaV, zcJ, if_neg (by decide), if_pos rfl, za4];simp only [List.map_nil] at *
   (refine Fun.of_body Tryz.func59 rfl (by simp) fun Γ hn => ?_); simp only [entry, ziC, ziN, maC, maN, oA, Tryz.ntmps59]
   repeat' (first
  | ((first | refine zae ?_ | refine zaj ?_ | refine zah ?_ | refine zai ?_ | refine zaw ?_ | fail); simp [hl])
  | ((first | refine zaq ?_ | refine zap ?_ | fail); simp only [zao])
  | (refine CallP.fE (hf) (by first | rfl | fail) (by first | simp [hl] <;> rfl | fail) ?_; (try simp [hl]))
  | fail)
   (refine EndOK.val (.inr rfl) ?_; simp [zaG, zaf, zar, Tryz.results59])
  ·obtain ⟨a, rfl⟩ := zkT hl3;have h1 := ha a (by simp);have hb := zct h1 (by omega) 3;have k1 := zdK 12 0 0 [] [a] 0 a 3 rfl (ih a (by simp [Exp.args]) h1);rw [zlt h1];simp only [List.map_cons, List.map_nil] at *;generalize txt a 3 = T at *;have hT : T.length <= 9223372036854775000 := by omega
   (refine Fun.of_body Tryz.func59 rfl (by simp) fun Γ hn => ?_); simp only [entry, ziC, ziN, maC, maN, oA, Tryz.ntmps59]
   repeat' (first
  | ((first | refine zae ?_ | refine zaj ?_ | fail); simp [hl])
  | (refine ⟨by omega, ?_⟩)
  | ((first | refine zah ?_ | refine zai ?_ | refine zaw ?_ | fail); simp [hl])
  | ((first | refine zaq ?_ | refine zap ?_ | fail); simp only [zao])
  | (refine CallP.fE (hf) (by first | rfl | fail) (by first | simp [hl] <;> rfl | fail) ?_; (try simp [hl]))
  | (refine CallP.fE (k1) (by first | rfl | fail) (by first | simp [hl] <;> rfl | fail) ?_; (try simp [hl]))
  | fail)
   (refine EndOK.val (.inr rfl) ?_; simp [zaG, zaf, zar, Tryz.results59])
  ·obtain ⟨a, b, c, rfl⟩ := zkR hl3;have h1 := ha a (by simp);have h2 := ha b (by simp);have h3 := ha c (by simp);have hb1 := zct h1 (by omega) 0;have hb2 := zct h2 (by omega) 0;have hb3 := zct h3 (by omega) 0;have k1 := zdK 13 0 0 [] [a, b, c] 0 a 0 rfl (ih a (by simp [Exp.args]) h1);have k2 := zdK 13 0 0 [] [a, b, c] 1 b 0 rfl (ih b (by simp [Exp.args]) h2);have k3 := zdK 13 0 0 [] [a, b, c] 2 c 0 rfl (ih c (by simp [Exp.args]) h3);rw [zn7 h1 h2 h3];simp only [List.map_cons, List.map_nil] at *;generalize txt a 0 = T1 at *;generalize txt b 0 = T2 at *;generalize txt c 0 = T3 at *
   (refine Fun.of_body Tryz.func59 rfl (by simp) fun Γ hn => ?_); simp only [entry, ziC, ziN, maC, maN, oA, Tryz.ntmps59]
   repeat' (first
  | ((first | refine zae ?_ | refine zaj ?_ | fail); simp [hl])
  | (refine ⟨by omega, ?_⟩)
  | ((first | refine zah ?_ | refine zai ?_ | refine zaw ?_ | fail); simp [hl])
  | ((first | refine zaq ?_ | refine zap ?_ | fail); simp only [zao])
  | (refine CallP.fE (hf) (by first | rfl | fail) (by first | simp [hl] <;> rfl | fail) ?_; (try simp [hl]))
  | (refine CallP.fE (k1) (by first | rfl | fail) (by first | simp [hl] <;> rfl | fail) ?_; (try simp [hl]))
  | (refine CallP.fE (k2) (by first | rfl | fail) (by first | simp [hl] <;> rfl | fail) ?_; (try simp [hl]))
  | (refine CallP.fE (k3) (by first | rfl | fail) (by first | simp [hl] <;> rfl | fail) ?_; (try simp [hl]))
  | fail)
   (refine EndOK.val (.inr rfl) ?_; simp [zaG, zaf, zar, Tryz.results59])
  ·obtain ⟨a, b, rfl⟩ := zkS hl3;have h1 := ha a (by simp);have h2 := ha b (by simp);have ia := ih a (by simp [Exp.args]) h1;have ib := ih b (by simp [Exp.args]) h2;by_cases h6 : op = 6
   ·subst h6;have hb1 := zct h1 (by omega) 0;have hb2 := zct h2 (by omega) 0;have k1 := zdK 6 0 0 [] [a, b] 0 a 0 rfl ia;have k2 := zdK 6 0 0 [] [a, b] 1 b 0 rfl ib;rw [zlu h1 h2];simp only [List.map_cons, List.map_nil] at *;generalize txt a 0 = T1 at *;generalize txt b 0 = T2 at *
    (refine Fun.of_body Tryz.func59 rfl (by simp) fun Γ hn => ?_); simp only [entry, ziC, ziN, maC, maN, oA, Tryz.ntmps59]
    repeat' (first
  | ((first | refine zae ?_ | refine zaj ?_ | fail); simp [hl])
  | (refine ⟨by omega, ?_⟩)
  | ((first | refine zah ?_ | refine zai ?_ | refine zaw ?_ | fail); simp [hl])
  | ((first | refine zaq ?_ | refine zap ?_ | fail); simp only [zao])
  | (refine CallP.fE (hf) (by first | rfl | fail) (by first | simp [hl] <;> rfl | fail) ?_; (try simp [hl]))
  | (refine CallP.fE (k1) (by first | rfl | fail) (by first | simp [hl] <;> rfl | fail) ?_; (try simp [hl]))
  | (refine CallP.fE (k2) (by first | rfl | fail) (by first | simp [hl] <;> rfl | fail) ?_; (try simp [hl]))
  | fail)
    (refine EndOK.val (.inr rfl) ?_; simp [zaG, zaf, zar, Tryz.results59])
   ·by_cases h7 : op = 7
    ·subst h7;have hb1 := zct h1 (by omega) 0;have hb2 := zct h2 (by omega) 0;have k1 := zdK 7 0 0 [] [a, b] 0 a 0 rfl ia;have k2 := zdK 7 0 0 [] [a, b] 1 b 0 rfl ib;rw [zlv h1 h2];simp only [List.map_cons, List.map_nil] at *;generalize txt a 0 = T1 at *;generalize txt b 0 = T2 at *
     (refine Fun.of_body Tryz.func59 rfl (by simp) fun Γ hn => ?_); simp only [entry, ziC, ziN, maC, maN, oA, Tryz.ntmps59]
     repeat' (first
  | ((first | refine zae ?_ | refine zaj ?_ | fail); simp [hl])
  | (refine ⟨by omega, ?_⟩)
  | ((first | refine zah ?_ | refine zai ?_ | refine zaw ?_ | fail); simp [hl])
  | ((first | refine zaq ?_ | refine zap ?_ | fail); simp only [zao])
  | (refine CallP.fE (hf) (by first | rfl | fail) (by first | simp [hl] <;> rfl | fail) ?_; (try simp [hl]))
  | (refine CallP.fE (k1) (by first | rfl | fail) (by first | simp [hl] <;> rfl | fail) ?_; (try simp [hl]))
  | (refine CallP.fE (k2) (by first | rfl | fail) (by first | simp [hl] <;> rfl | fail) ?_; (try simp [hl]))
  | fail)
     (refine EndOK.val (.inr rfl) ?_; simp [zaG, zaf, zar, Tryz.results59])
    ·obtain ⟨o, ho, rfl⟩ := zgS (by omega) (by omega) h6 h7;have hop := zd3;have hfd : oprs.find? (fun x => decide (x.op = o.op)) = some o := by
      simp only [oprs, List.mem_cons, List.mem_nil_iff, or_false] at ho;rcases ho with rfl | rfl | rfl | rfl | rfl | rfl | rfl | rfl <;> rfl
     obtain ⟨j, hj1, hj2⟩ := (zfj oprs 0).2 o hfd;have hix := zo1 o.op 0 0 [] (.sl ([a, b].map Exp.row));rw [hj2] at hix;have hj0 : ¬ ((j : Int) < 0) := by omega
     have hjl : j < 8 := (lGE.1 hj1).1;rw [show (0 : Int) + j = (j : Int) by omega] at hix;have hfm : 0 <= o.form /\ o.form <= 6 := by
      simp only [oprs, List.mem_cons, List.mem_nil_iff, or_false] at ho;rcases ho with rfl | rfl | rfl | rfl | rfl | rfl | rfl | rfl <;> decide
     obtain ⟨hf0, hf6⟩ := hfm;have hot := znu ho;have hb1 := zct h1 (by omega) (if o.form = 4 then 5 else o.form);have hb2 := zct h2 (by omega) (o.form + 1);have k1 := zdK o.op 0 0 [] [a, b] 0 a (if o.form = 4 then 5 else o.form) rfl ia;have k2 := zdK o.op 0 0 [] [a, b] 1 b (o.form + 1) rfl ib;rw [zeE ho h1 h2];simp only [List.map_cons, List.map_nil] at *;clear hfd hj2 ho;generalize hL : oprs = L at hop hix hj1;by_cases c4 : o.form = 4
     ·have e1 : o.form + 1 = 5 := by omega
      rw [if_pos c4] at k1 hb1 ⊢;rw [e1] at k2 hb2 ⊢;generalize txt a 5 = T1 at *;generalize txt b 5 = T2 at *
      (refine Fun.of_body Tryz.func59 rfl (by simp) fun Γ hn => ?_); simp only [entry, ziC, ziN, maC, maN, oA, Tryz.ntmps59]
      repeat' (first
  | ((first | refine zae ?_ | refine zaU rfl ?_ | refine zaj ?_ | fail); simp [hl, g0, g1, g12, g13, h6, h7, hj0, hj1, c4])
  | (refine ⟨by omega, ?_⟩)
  | ((first | refine zah ?_ | refine zai ?_ | fail); simp [hl, g0, g1, g12, g13, h6, h7, hj0, hj1, c4])
  | (refine za8 (hC _ (by kernel_rfl)) (hk _ ?_); clear hC hk C k; simp only [zao])
  | (refine za9 rfl (by kernel_rfl) (by first | (simp [hn]; done) | (simp [hn]; omega) | fail) fun C k hC hk => ?_; simp [hl, g0, g1, g12, g13, h6, h7, hj0, hj1, c4])
  | ((first | refine zaw ?_ | refine zax ?_ | fail); simp [hl, g0, g1, g12, g13, h6, h7, hj0, hj1, c4])
  | ((first | refine zaq ?_ | refine zap ?_ | fail); simp only [zao])
  | (refine CallP.fE (hf) (by first | rfl | fail) (by first | simp [hl, g0, g1, g12, g13, h6, h7, hj0, hj1, c4] <;> rfl | fail) ?_; (try simp [hl, g0, g1, g12, g13, h6, h7, hj0, hj1, c4]))
  | (refine CallP.fE (hop) (by first | rfl | fail) (by first | simp [hl, g0, g1, g12, g13, h6, h7, hj0, hj1, c4] <;> rfl | fail) ?_; (try simp [hl, g0, g1, g12, g13, h6, h7, hj0, hj1, c4]))
  | (refine CallP.fE (hix) (by first | rfl | fail) (by first | simp [hl, g0, g1, g12, g13, h6, h7, hj0, hj1, c4] <;> rfl | fail) ?_; (try simp [hl, g0, g1, g12, g13, h6, h7, hj0, hj1, c4]))
  | (refine CallV.fun_ (k1) (by first | rfl | fail) (by first | simp [hl, g0, g1, g12, g13, h6, h7, hj0, hj1, c4] <;> rfl | fail) ?_ <;> (try simp [hl, g0, g1, g12, g13, h6, h7, hj0, hj1, c4]))
  | (refine CallV.fun_ (k2) (by first | rfl | fail) (by first | simp [hl, g0, g1, g12, g13, h6, h7, hj0, hj1, c4] <;> rfl | fail) ?_ <;> (try simp [hl, g0, g1, g12, g13, h6, h7, hj0, hj1, c4]))
  | fail)
      (refine EndOK.val (.inr rfl) ?_; simp [zaG, zaf, zar, Tryz.results59])
     ·rw [if_neg c4] at k1 hb1 ⊢;generalize txt a o.form = T1 at *;generalize txt b (o.form + 1) = T2 at *
      (refine Fun.of_body Tryz.func59 rfl (by simp) fun Γ hn => ?_); simp only [entry, ziC, ziN, maC, maN, oA, Tryz.ntmps59]
      repeat' (first
  | ((first | refine zae ?_ | refine zaU rfl ?_ | refine zaj ?_ | fail); simp [hl, g0, g1, g12, g13, h6, h7, hj0, hj1, c4])
  | (refine ⟨by omega, ?_⟩)
  | ((first | refine zah ?_ | refine zai ?_ | fail); simp [hl, g0, g1, g12, g13, h6, h7, hj0, hj1, c4])
  | (refine za8 (hC _ (by kernel_rfl)) (hk _ ?_); clear hC hk C k; simp only [zao])
  | (refine za9 rfl (by kernel_rfl) (by first | (simp [hn]; done) | (simp [hn]; omega) | fail) fun C k hC hk => ?_; simp [hl, g0, g1, g12, g13, h6, h7, hj0, hj1, c4])
  | (refine zaw ?_; simp [hl, g0, g1, g12, g13, h6, h7, hj0, hj1, c4])
  | ((first | refine zaq ?_ | refine zap ?_ | fail); simp only [zao])
  | (refine CallP.fE (hf) (by first | rfl | fail) (by first | simp [hl, g0, g1, g12, g13, h6, h7, hj0, hj1, c4] <;> rfl | fail) ?_; (try simp [hl, g0, g1, g12, g13, h6, h7, hj0, hj1, c4]))
  | (refine CallP.fE (hop) (by first | rfl | fail) (by first | simp [hl, g0, g1, g12, g13, h6, h7, hj0, hj1, c4] <;> rfl | fail) ?_; (try simp [hl, g0, g1, g12, g13, h6, h7, hj0, hj1, c4]))
  | (refine CallP.fE (hix) (by first | rfl | fail) (by first | simp [hl, g0, g1, g12, g13, h6, h7, hj0, hj1, c4] <;> rfl | fail) ?_; (try simp [hl, g0, g1, g12, g13, h6, h7, hj0, hj1, c4]))
  | (refine CallV.fun_ (k1) (by first | rfl | fail) (by first | simp [hl, g0, g1, g12, g13, h6, h7, hj0, hj1, c4] <;> rfl | fail) ?_ <;> (try simp [hl, g0, g1, g12, g13, h6, h7, hj0, hj1, c4]))
  | (refine CallV.fun_ (k2) (by first | rfl | fail) (by first | simp [hl, g0, g1, g12, g13, h6, h7, hj0, hj1, c4] <;> rfl | fail) ?_ <;> (try simp [hl, g0, g1, g12, g13, h6, h7, hj0, hj1, c4]))
  | fail)
      (refine EndOK.val (.inr rfl) ?_; simp [zaG, zaf, zar, Tryz.results59])
theorem zgn : ∀ (d : Nat), d <= 12 -> ∀ e : Exp, zaC d e = true -> zlQ e
 | 0, _, e, h => by rw [zaC] at h; cases h
 | d + 1, hd, e, h => fun least => by
  have ih : ∀ x ∈ e.args, zaC (d + 1 - 1) x = true -> zlQ x := fun x _ hx => zgn d (by omega) x hx;have h00 : ¬ zbZ e.op < 0 := by
   unfold zbZ;split
   ·omega
   ·split
    ·omega
    ·split
     ·rename_i o ho;have := List.mem_of_find?_eq_some ho;simp only [oprs, List.mem_cons, List.mem_nil_iff, or_false] at this;rcases this with rfl | rfl | rfl | rfl | rfl | rfl | rfl | rfl <;> decide
     ·omega
  have h0 := zjd (d + 1) hd e h 0 h00 ih;by_cases hl : zbZ e.op < least
  ·exact znd h hd (by rw [zcS h00]; exact h0) hl h00
  ·have := zjd (d + 1) hd e h least hl ih
   rwa [<- zcS hl] at this
def zgP (e : Exp) : W8 × Int := if zaC 12 e = true then (if 2000 < (txt e 0).length then ([], 6) else (txt e 0, 0)) else ([], 1)
theorem zf4 (e : Exp) : Fun Tryz.prog 21 [.u (.agg e.row)] (· = .tup [.u (.str (zgP e).1), .u (.int .i64 (zgP e).2)]) := by
 have h1 : Fun Tryz.prog 25 [.u (.agg e.row)] (· = .u (.bool (zaC 12 e))) := by rw [Exp.row_eq]; exact zdB e
 unfold zgP;cases hr : zaC 12 e with
 | false =>
  rw [hr] at h1;rw [if_neg (by simp)];rw [Exp.row_eq] at *
  (refine Fun.of_body Tryz.func21 rfl (by simp) fun Γ hn => ?_); simp only [entry, ziC, ziN, maC, maN, oA, Tryz.ntmps21]
  repeat' (first
  | ((first | refine zae ?_ | refine zaj ?_ | refine zah ?_ | refine zai ?_ | fail); simp)
  | (refine zaq ?_; simp only [zao])
  | (refine CallP.fE (h1) (by first | rfl | fail) (by first | (simp; done) | (simp; rfl) | fail) ?_; (try simp))
  | fail)
  (refine EndOK.val (.inr rfl) ?_; simp [zaG, zaf, zar, Tryz.results21])
 | true =>
  have h2 := zgn 12 (Nat.le_refl _) e hr 0;have h3 := zlD (txt e 0);rw [hr] at h1;rw [if_pos rfl];rw [Exp.row_eq] at *;generalize txt e 0 = T at *;by_cases hl : 2000 < T.length
  ·rw [if_pos hl] at h3 ⊢
   (refine Fun.of_body Tryz.func21 rfl (by simp) fun Γ hn => ?_); simp only [entry, ziC, ziN, maC, maN, oA, Tryz.ntmps21]
   repeat' (first
  | ((first | refine zae ?_ | refine zaj ?_ | refine zah ?_ | refine zai ?_ | fail); simp)
  | ((first | refine zaq ?_ | refine zap ?_ | fail); simp only [zao])
  | (refine CallP.fE (h1) (by first | rfl | fail) (by first | (simp; done) | (simp; rfl) | fail) ?_; (try simp))
  | (refine CallP.fE (h2) (by first | rfl | fail) (by first | (simp; done) | (simp; rfl) | fail) ?_; (try simp))
  | (refine CallP.fE (h3) (by first | rfl | fail) (by first | (simp; done) | (simp; rfl) | fail) ?_; (try simp))
  | fail)
   (refine EndOK.val (.inr rfl) ?_; simp [zaG, zaf, zar, Tryz.results21])
  ·rw [if_neg hl] at h3 ⊢
   (refine Fun.of_body Tryz.func21 rfl (by simp) fun Γ hn => ?_); simp only [entry, ziC, ziN, maC, maN, oA, Tryz.ntmps21]
   repeat' (first
  | ((first | refine zae ?_ | refine zaj ?_ | refine zah ?_ | refine zai ?_ | fail); simp)
  | ((first | refine zaq ?_ | refine zap ?_ | fail); simp only [zao])
  | (refine CallP.fE (h1) (by first | rfl | fail) (by first | (simp; done) | (simp; rfl) | fail) ?_; (try simp))
  | (refine CallP.fE (h2) (by first | rfl | fail) (by first | (simp; done) | (simp; rfl) | fail) ?_; (try simp))
  | (refine CallP.fE (h3) (by first | rfl | fail) (by first | (simp; done) | (simp; rfl) | fail) ?_; (try simp))
  | fail)
   (refine EndOK.val (.inr rfl) ?_; simp [zaG, zaf, zar, Tryz.results21])
abbrev zdf (a b : Exp) : Prop := Fun Tryz.prog 28 [.u (.agg a.row), .u (.agg b.row)] (· = .u (.bool (eqB a b)))
theorem zmK (A B : List Exp) (h : ∀ a ∈ A, ∀ b, zdf a b) : Fun Tryz.prog 73 [.u (.sl (A.map Exp.row)), .u (.sl (B.map Exp.row)), .fnc (.func 28) []] (· = .u (.bool (eqB A B))) := by
 by_cases hl : A.length = B.length
 ·have hl' : (A.length : Int) = B.length := by omega
  (refine Fun.of_body Tryz.func73 rfl (by simp) fun Γ hn => ?_); simp only [entry, ziC, ziN, maC, maN, oA, Tryz.ntmps73]
  refine ziV (x := 0) rfl fun hll => ?_;simp at hll
  repeat' (first
  | ((first | refine zae ?_ | refine zaj ?_ | refine zah ?_ | refine zai ?_ | refine zaw ?_ | fail); simp [hl, hl'])
  | (refine zap ?_; simp only [zao])
  | fail)
  refine zdL (α := { i : Nat // i <= A.length /\ A.take i = B.take i }) [0, 1, 2, 6, 15, 16] (fun x => [(17, .u (.int .i64 x.1))]) (fun x => []) 0 (fun x => A.length - x.1) ⟨0, by omega, by simp⟩ ?_ ?_
  ·exact (Wk.cut rfl (by simp [hn, St.lp]) (by simp [wkO, St.lp, zaa, getK, Ob.under, D.under, zad, zag, hl]) (by simp [wkU, St.lp, zan, zaa, getK, D.under, hl]) (by simp [wkE, St.lp, zan, zaa, getK, hl] <;> (try (intros; simp_all; done)) <;> (try (intros; omega)) <;> (try grind)))
  rintro ⟨i, hi, hb⟩;simp [St.lp, St.only, zan, zaa, getK];rcases hx : A[i]? with _ | a
  ·have hge : A.length <= i := by simpa using hx
   obtain rfl : i = A.length := by omega
   rw [List.take_of_length_le (Nat.le_refl _), List.take_of_length_le (by omega)] at hb;subst hb;rw [zev]
   repeat' (first
  | ((first | refine zae ?_ | refine zaj ?_ | refine zah ?_ | fail); simp [hx, hl])
  | (refine zaq ?_; simp only [zao])
  | (refine zbA ?_; simp [zao])
  | fail)
   (refine EndOK.val (.inr rfl) ?_; simp [zaG, zaf, zar, Tryz.results73])
  ·have hlt : i < A.length := (lGE.1 hx).1;have hlt2 : i < B.length := by omega
   obtain ⟨b, hy⟩ : ∃ b, B[i]? = some b := ⟨_, List.getElem?_eq_getElem hlt2⟩;have hi2 : (i : Int) < B.length := by omega
   have h1 : zdf a b := h a (List.mem_of_getElem? hx) b;unfold zdf at h1;by_cases hab : a = b
   ·rw [zb1.2 hab] at h1;rw [Exp.row_eq, Exp.row_eq] at h1
    repeat' (first
  | ((first | refine zae ?_ | refine zaj ?_ | fail); simp [hx, hy, hi2, Exp.row_eq])
  | (refine ⟨by omega, ?_⟩)
  | ((first | refine zah ?_ | refine zai ?_ | refine zax ?_ | fail); simp [hx, hy, hi2, Exp.row_eq])
  | (refine zap ?_; simp only [zao])
  | (refine CallP.fE (h1) (by first | rfl | fail) (by first | simp [hx, hy, hi2, Exp.row_eq] <;> rfl | fail) ?_; (try simp [hx, hy, hi2, Exp.row_eq]))
  | fail)
    have hsn : A.take (i + 1) = B.take (i + 1) := by
     rw [List.take_succ_eq_append_getElem hlt, List.take_succ_eq_append_getElem hlt2, hb, (lGE.1 hx).2, (lGE.1 hy).2, hab]
    refine LoopW.next ⟨i + 1, by omega, hsn⟩ (by simp; omega) ?_
    exact (Wk.cut rfl (by simp [hn, St.lp]) (by simp [wkO, St.lp, zaa, getK, Ob.under, D.under, zad, zag, hl]) (by simp [wkU, St.lp, zan, zaa, getK, D.under, hl]) (by simp [wkE, St.lp, zan, zaa, getK, hl] <;> (try (intros; simp_all; done)) <;> (try (intros; omega)) <;> (try grind)))
   ·rw [zdV hab] at h1;rw [Exp.row_eq, Exp.row_eq] at h1;have hne : A ≠ B := fun e => by subst e; rw [hx] at hy; cases hy; exact hab rfl
    rw [zdV hne]
    repeat' (first
  | ((first | refine zae ?_ | refine zaj ?_ | refine zah ?_ | refine zai ?_ | fail); simp [hx, hy, hi2, Exp.row_eq])
  | ((first | refine zaq ?_ | refine zap ?_ | fail); simp only [zao])
  | (refine CallP.fE (h1) (by first | rfl | fail) (by first | simp [hx, hy, hi2, Exp.row_eq] <;> rfl | fail) ?_; (try simp [hx, hy, hi2, Exp.row_eq]))
  | fail)
    (refine EndOK.val (.inr rfl) ?_; simp [zaG, zaf, zar, Tryz.results73])
 ·have hl' : ¬ (A.length : Int) = B.length := by omega
  rw [zdV (fun e => hl (by rw [e]))]
  (refine Fun.of_body Tryz.func73 rfl (by simp) fun Γ hn => ?_); simp only [entry, ziC, ziN, maC, maN, oA, Tryz.ntmps73]
  repeat' (first
  | ((first | refine zae ?_ | refine zaj ?_ | refine zah ?_ | refine zai ?_ | fail); simp [hl, hl'])
  | (refine zaq ?_; simp only [zao])
  | fail)
  (refine EndOK.val (.inr rfl) ?_; simp [zaG, zaf, zar, Tryz.results73])
theorem zoR : ∀ (n : Nat) (a b : Exp), SizeOf.sizeOf a <= n -> zdf a b := by
 intro n
 induction n with
 | zero =>
  intro a b h;cases a with
  | mk op n u s args => simp only [Exp.mk.sizeOf_spec] at h; omega
 | succ n ih =>
  intro a b hs;have h1 := zmK a.args b.args (fun x hx y => ih x y (by have := Exp.ze6 hx; omega));unfold zdf;have key : ∀ B : Bool, (B = true ↔ a = b) -> eqB a b = B := fun B h => by
   cases B with
   | true => exact zb1.2 (h.1 rfl)
   | false => exact zdV fun e => by have := h.2 e; cases this
  have hmk : a = b ↔ a.op = b.op /\ a.n = b.n /\ a.unit = b.unit /\ a.s = b.s /\ a.args = b.args := by
   cases a; cases b;simp only [Exp.op, Exp.n, Exp.unit, Exp.s, Exp.args, Exp.mk.injEq]
  rw [Exp.row_eq, Exp.row_eq b];by_cases c1 : a.op = b.op
  ·by_cases c2 : a.n = b.n
   ·by_cases c3 : a.unit = b.unit
    ·by_cases c4 : a.s = b.s
     ·rw [key (eqB a.args b.args) (by rw [zb1, hmk]; exact ⟨fun h => ⟨c1, c2, c3, c4, h⟩, fun h => h.2.2.2.2⟩)]
      (refine Fun.of_body Tryz.func28 rfl (by simp) fun Γ hn => ?_); simp only [entry, ziC, ziN, maC, maN, oA, Tryz.ntmps28]
      repeat' (first
  | ((first | refine zae ?_ | refine zaj ?_ | refine zah ?_ | fail); simp [c1, c2, c3, c4])
  | (refine zaq ?_; simp only [zao])
  | (refine CallP.fE (h1) (by first | rfl | fail) (by first | simp [c1, c2, c3, c4] <;> rfl | fail) ?_; (try simp [c1, c2, c3, c4]))
  | fail)
      (refine EndOK.val (.inr rfl) ?_; simp [zaG, zaf, zar, Tryz.results28])
     ·rw [key false (by rw [hmk]; simp [c4])]
      (refine Fun.of_body Tryz.func28 rfl (by simp) fun Γ hn => ?_); simp only [entry, ziC, ziN, maC, maN, oA, Tryz.ntmps28]
      repeat' (first
  | ((first | refine zae ?_ | refine zaj ?_ | refine zah ?_ | fail); simp [c1, c2, c3, c4])
  | (refine zaq ?_; simp only [zao])
  | fail)
      (refine EndOK.val (.inr rfl) ?_; simp [zaG, zaf, zar, Tryz.results28])
    ·rw [key false (by rw [hmk]; simp [c3])]
     (refine Fun.of_body Tryz.func28 rfl (by simp) fun Γ hn => ?_); simp only [entry, ziC, ziN, maC, maN, oA, Tryz.ntmps28]
     repeat' (first
  | ((first | refine zae ?_ | refine zaj ?_ | refine zah ?_ | fail); simp [c1, c2, c3])
  | (refine zaq ?_; simp only [zao])
  | fail)
     (refine EndOK.val (.inr rfl) ?_; simp [zaG, zaf, zar, Tryz.results28])
   ·rw [key false (by rw [hmk]; simp [c2])]
    (refine Fun.of_body Tryz.func28 rfl (by simp) fun Γ hn => ?_); simp only [entry, ziC, ziN, maC, maN, oA, Tryz.ntmps28]
    repeat' (first
  | ((first | refine zae ?_ | refine zaj ?_ | refine zah ?_ | fail); simp [c1, c2])
  | (refine zaq ?_; simp only [zao])
  | fail)
    (refine EndOK.val (.inr rfl) ?_; simp [zaG, zaf, zar, Tryz.results28])
  ·rw [key false (by rw [hmk]; simp [c1])]
   (refine Fun.of_body Tryz.func28 rfl (by simp) fun Γ hn => ?_); simp only [entry, ziC, ziN, maC, maN, oA, Tryz.ntmps28]
   repeat' (first
  | ((first | refine zae ?_ | refine zaj ?_ | refine zah ?_ | fail); simp [c1])
  | (refine zaq ?_; simp only [zao])
  | fail)
   (refine EndOK.val (.inr rfl) ?_; simp [zaG, zaf, zar, Tryz.results28])
theorem zb8 (a b : Exp) : zdf a b := zoR (SizeOf.sizeOf a) a b (Nat.le_refl _)
theorem zl1 (x y : Let) : Fun Tryz.prog 72 [zn3 x, zn3 y] (· = .u (.bool (eqB x y))) := by
 have h1 := zb8 x.body y.body;unfold zdf at h1;rw [Exp.row_eq, Exp.row_eq] at h1;simp only [zn3];have hmk : x = y ↔ x.name = y.name /\ x.body = y.body := by cases x; cases y; simp
 by_cases c1 : x.name = y.name
 ·have e : eqB x y = eqB x.body y.body := by
   by_cases c2 : x.body = y.body
   ·rw [zb1.2 c2, zb1.2 (hmk.2 ⟨c1, c2⟩)]
   ·rw [zdV c2, zdV fun h => c2 (hmk.1 h).2]
  rw [e]
  (refine Fun.of_body Tryz.func72 rfl (by simp) fun Γ hn => ?_); simp only [entry, ziC, ziN, maC, maN, oA, Tryz.ntmps72]
  repeat' (first
  | ((first | refine zae ?_ | refine zaj ?_ | refine zah ?_ | fail); simp [c1])
  | (refine zaq ?_; simp only [zao])
  | (refine CallP.fE (h1) (by first | rfl | fail) (by first | simp [c1] <;> rfl | fail) ?_; (try simp [c1]))
  | fail)
  (refine EndOK.val (.inr rfl) ?_; simp [zaG, zaf, zar, Tryz.results72])
 ·rw [zdV fun h => c1 (hmk.1 h).1]
  (refine Fun.of_body Tryz.func72 rfl (by simp) fun Γ hn => ?_); simp only [entry, ziC, ziN, maC, maN, oA, Tryz.ntmps72]
  repeat' (first
  | ((first | refine zae ?_ | refine zaj ?_ | refine zah ?_ | fail); simp [c1])
  | (refine zaq ?_; simp only [zao])
  | fail)
  (refine EndOK.val (.inr rfl) ?_; simp [zaG, zaf, zar, Tryz.results72])
theorem zmJ (A B : List Let) : Fun Tryz.prog 71 [.u (zfd A), .u (zfd B), .fnc (.func 72) []] (· = .u (.bool (eqB A B))) := by
 simp only [zfd];by_cases hl : A.length = B.length
 ·have hl' : (A.length : Int) = B.length := by omega
  (refine Fun.of_body Tryz.func71 rfl (by simp) fun Γ hn => ?_); simp only [entry, ziC, ziN, maC, maN, oA, Tryz.ntmps71]
  refine ziV (x := 0) rfl fun hll => ?_;simp at hll
  repeat' (first
  | ((first | refine zae ?_ | refine zaj ?_ | refine zah ?_ | refine zai ?_ | refine zaw ?_ | fail); simp [hl, hl'])
  | (refine zap ?_; simp only [zao])
  | fail)
  refine zdL (α := { i : Nat // i <= A.length /\ A.take i = B.take i }) [0, 1, 2, 6, 15, 16] (fun x => [(17, .u (.int .i64 x.1))]) (fun x => []) 0 (fun x => A.length - x.1) ⟨0, by omega, by simp⟩ ?_ ?_
  ·exact (Wk.cut rfl (by simp [hn, St.lp]) (by simp [wkO, St.lp, zaa, getK, Ob.under, D.under, zad, zag, hl]) (by simp [wkU, St.lp, zan, zaa, getK, D.under, hl]) (by simp [wkE, St.lp, zan, zaa, getK, hl] <;> (try (intros; simp_all; done)) <;> (try (intros; omega)) <;> (try grind)))
  rintro ⟨i, hi, hb⟩;simp [St.lp, St.only, zan, zaa, getK];rcases hx : A[i]? with _ | a
  ·have hge : A.length <= i := by simpa using hx
   obtain rfl : i = A.length := by omega
   rw [List.take_of_length_le (Nat.le_refl _), List.take_of_length_le (by omega)] at hb;subst hb;rw [zev]
   repeat' (first
  | ((first | refine zae ?_ | refine zaj ?_ | refine zah ?_ | fail); simp [hx, hl])
  | (refine zaq ?_; simp only [zao])
  | (refine zbA ?_; simp [zao])
  | fail)
   (refine EndOK.val (.inr rfl) ?_; simp [zaG, zaf, zar, Tryz.results71])
  ·have hlt : i < A.length := (lGE.1 hx).1;have hlt2 : i < B.length := by omega
   obtain ⟨b, hy⟩ : ∃ b, B[i]? = some b := ⟨_, List.getElem?_eq_getElem hlt2⟩;have hi2 : (i : Int) < B.length := by omega
   have h1 := zl1 a b;simp only [zn3] at h1;by_cases hab : a = b
   ·rw [zb1.2 hab] at h1
    repeat' (first
  | ((first | refine zae ?_ | refine zaj ?_ | fail); simp [hx, hy, hi2])
  | (refine ⟨by omega, ?_⟩)
  | ((first | refine zah ?_ | refine zai ?_ | refine zax ?_ | fail); simp [hx, hy, hi2])
  | (refine zap ?_; simp only [zao])
  | (refine CallP.fE (h1) (by first | rfl | fail) (by first | simp [hx, hy, hi2] <;> rfl | fail) ?_; (try simp [hx, hy, hi2]))
  | fail)
    have hsn : A.take (i + 1) = B.take (i + 1) := by
     rw [List.take_succ_eq_append_getElem hlt, List.take_succ_eq_append_getElem hlt2, hb, (lGE.1 hx).2, (lGE.1 hy).2, hab]
    refine LoopW.next ⟨i + 1, by omega, hsn⟩ (by simp; omega) ?_
    exact (Wk.cut rfl (by simp [hn, St.lp]) (by simp [wkO, St.lp, zaa, getK, Ob.under, D.under, zad, zag, hl]) (by simp [wkU, St.lp, zan, zaa, getK, D.under, hl]) (by simp [wkE, St.lp, zan, zaa, getK, hl] <;> (try (intros; simp_all; done)) <;> (try (intros; omega)) <;> (try grind)))
   ·rw [zdV hab] at h1;have hne : A ≠ B := fun e => by subst e; rw [hx] at hy; cases hy; exact hab rfl
    rw [zdV hne]
    repeat' (first
  | ((first | refine zae ?_ | refine zaj ?_ | refine zah ?_ | refine zai ?_ | fail); simp [hx, hy, hi2])
  | ((first | refine zaq ?_ | refine zap ?_ | fail); simp only [zao])
  | (refine CallP.fE (h1) (by first | rfl | fail) (by first | simp [hx, hy, hi2] <;> rfl | fail) ?_; (try simp [hx, hy, hi2]))
  | fail)
    (refine EndOK.val (.inr rfl) ?_; simp [zaG, zaf, zar, Tryz.results71])
 ·have hl' : ¬ (A.length : Int) = B.length := by omega
  rw [zdV (fun e => hl (by rw [e]))]
  (refine Fun.of_body Tryz.func71 rfl (by simp) fun Γ hn => ?_); simp only [entry, ziC, ziN, maC, maN, oA, Tryz.ntmps71]
  repeat' (first
  | ((first | refine zae ?_ | refine zaj ?_ | refine zah ?_ | refine zai ?_ | fail); simp [hl, hl'])
  | (refine zaq ?_; simp only [zao])
  | fail)
  (refine EndOK.val (.inr rfl) ?_; simp [zaG, zaf, zar, Tryz.results71])
theorem zjf (b : By) : Fun Tryz.prog 27 [.u (.agg (za1 b)), .u (.agg (za1 b))] (· = .u (.bool true)) := by
 have e0 := zmJ b.lets b.lets;have e1 : zdf b.due b.due := zb8 _ _;have e2 : zdf b.fine b.fine := zb8 _ _;have e3 : zdf b.pay b.pay := zb8 _ _;have e4 : zdf b.cover b.cover := zb8 _ _;have e5 : zdf b.hold b.hold := zb8 _ _;unfold zdf at e1 e2 e3 e4 e5;rw [Exp.row_eq] at e1 e2 e3 e4 e5;rw [zev] at e0 e1 e2 e3 e4 e5;simp only [zfd] at e0;unfold za1
 (refine Fun.of_body Tryz.func27 rfl (by simp) fun Γ hn => ?_); simp only [entry, ziC, ziN, maC, maN, oA, Tryz.ntmps27]
 repeat' (first
  | ((first | refine zae ?_ | refine zaj ?_ | refine zah ?_ | fail); simp)
  | (refine zaq ?_; simp only [zao])
  | (refine CallP.fE (e0) (by first | rfl | fail) (by first | (simp; done) | (simp; rfl) | fail) ?_; (try simp))
  | (refine CallP.fE (e1) (by first | rfl | fail) (by first | (simp; done) | (simp; rfl) | fail) ?_; (try simp))
  | (refine CallP.fE (e2) (by first | rfl | fail) (by first | (simp; done) | (simp; rfl) | fail) ?_; (try simp))
  | (refine CallP.fE (e3) (by first | rfl | fail) (by first | (simp; done) | (simp; rfl) | fail) ?_; (try simp))
  | (refine CallP.fE (e4) (by first | rfl | fail) (by first | (simp; done) | (simp; rfl) | fail) ?_; (try simp))
  | (refine CallP.fE (e5) (by first | rfl | fail) (by first | (simp; done) | (simp; rfl) | fail) ?_; (try simp))
  | fail)
 (refine EndOK.val (.inr rfl) ?_; simp [zaG, zaf, zar, Tryz.results27])
abbrev zj8 : Ob := .box [.u (.int .i64 0), .u (.int .i64 0), .u (.int .i64 0), .u (.str []), .u .nil]
theorem zin (i j q nx : Nat) (hi : i < nx) (hj : j < nx) (hq : q < nx) (hij : i ≠ j) (hiq : i ≠ q) (hjq : j ≠ q) (p e pos err : Int) (a b c : Int) (t : List UInt8) (g : U) :
  RetDf Tryz.prog 40 [.ptr i 0, .ptr j 0, .ptr q 0] [(i, .box [.u (.int .i64 p)]), (j, .box [.u (.int .i64 e)]), (q, .box [.u (.int .i64 a), .u (.int .i64 b), .u (.int .i64 c), .u (.str t), .u g])] nx (.panicking (chP pos err))
   (fun u o n => settle u = .returning /\ n = nx /\ o = [(i, .box [.u (.int .i64 pos)]), (j, .box [.u (.int .i64 err)]), (q, zj8)]) := by
 have hne := zaB hi;have hne2 := zaB hj;have hne3 := zaB hq;have hc0 := zhk i j nx hi hj hij p e pos err;refine RetDf.of_body Tryz.func40 rfl (by simp) (by simp) rfl fun Γ hn => ?_;simp [entry, zkE, chP, Tryz.ntmps40];refine CallP.x2 hc0 (by simp [getK]) (by simp [getK, hij, Ne.symm hij]) hij rfl rfl (by simp) (by simp) (fun d o1 nx' hnx h => ?_) (fun ch o1 nx' hnx h => by cases h.1);obtain ⟨h1, rfl, h4⟩ := h;have h4 := h4.symm;subst h4;cases h1;simp [del, hij, Ne.symm hij, hiq, hjq, Ne.symm hiq, Ne.symm hjq]
 repeat' (first
  | ((first | refine zae ?_ | refine zaj ?_ | refine zai ?_ | refine zax ?_ | fail); simp [hij, hiq, hjq])
  | fail)
 (refine ⟨by simp, { n := _, env := [], obs := [(i, .box [.u (.int .i64 pos)]), (j, .box [.u (.int .i64 err)]), (q, zj8)], next := nx }, (Wk.cut rfl (by simp [hn]) (by simp [wkO, zaa, getK, zab, zac, Ob.under, D.under, zad, zag, hi, hj, hq, hne, hne2, hne3, hij, hiq, hjq, Ne.symm hij, Ne.symm hiq, Ne.symm hjq]) (by simp [wkU, zan, zaa, getK, D.under, hi, hj, hq, hne, hne2, hne3, hij, hiq, hjq, Ne.symm hij, Ne.symm hiq, Ne.symm hjq]) (by simp [wkE, zan, zaa, getK, hi, hj, hq, hne, hne2, hne3, hij, hiq, hjq, Ne.symm hij, Ne.symm hiq, Ne.symm hjq])), by simp [hn], ?_⟩; try simp)
 all_goals rfl
theorem znO {s : List UInt8} : ∀ (f p : Nat) (l : List Tok), zln f s p = .ok l -> s.length < p + f -> p <= s.length ->
  (∀ (i : Nat) (t : Tok), l[i]? = some t -> t.kind ≠ 0 -> i + 1 < l.length) /\ l.length <= s.length - p + 1 /\ 0 < l.length
 | 0, p, l, _, h2, h3 => by omega
 | f + 1, p, l, h, h2, h3 => by
  rw [zln] at h;have hle := zdA za0 (s.drop p);rw [List.length_drop] at hle;split at h
  ·cases h;refine ⟨fun i t hi hk => ?_, by simp, by simp⟩;rcases i with _ | i
   ·simp at hi;subst hi;exact absurd rfl hk
   ·simp at hi
  ·rename_i c r hd;have hdl : (s.drop (p + zbE za0 (s.drop p))).length = r.length + 1 := by rw [hd]; rfl
   rw [List.length_drop] at hdl;split at h
   ·cases h
   ·rename_i t ht;obtain ⟨ht1, ht2⟩ := zfI ht;simp only [List.length_cons] at ht2;split at h
    ·cases h
    ·rename_i l' hl';cases h;obtain ⟨g1, g2, g3⟩ := znO f _ l' hl' (by omega) (by omega);refine ⟨fun i t' hi hk => ?_, by simp only [List.length_cons]; omega, by simp⟩;rcases i with _ | i
     ·simp; exact g3
     ·simp only [List.getElem?_cons_succ] at hi;have := g1 i t' hi hk;simp only [List.length_cons];omega
theorem znN {s : List UInt8} {l : List Tok} (h : zkw s = .ok l) : TokOK l /\ l.length <= 2001 /\ 0 < l.length := by
 unfold zkw at h;split at h
 ·cases h
 ·obtain ⟨g1, g2, g3⟩ := znO _ _ _ h (by omega) (by omega);exact ⟨⟨g1, by omega⟩, by omega, g3⟩
theorem Exp.zku {op n u : Int} {s : List UInt8} {args : List Exp} {B : Int} (h : ∀ x ∈ args, x.lev <= B) (h0 : 0 <= B) : (Exp.mk op n u s args).lev <= B + 1 := by
 rw [Exp.zgd];simp only [Exp.args];have : ∀ (l : List Int) (a : Int), a <= B -> (∀ x ∈ l, x <= B) -> l.foldl max a <= B := by
  intro l
  induction l with
  | nil => intro a ha _; exact ha
  | cons b l ih => intro a ha hl; exact ih _ (by have := hl b (by simp); omega) fun x hx => hl x (by simp [hx])
 have := this (args.map Exp.lev) 0 h0 (fun x hx => by obtain ⟨y, hy, rfl⟩ := List.mem_map.1 hx; exact h y hy);omega
theorem zgQ {l : List Tok} : ∀ (f : Nat),
  (∀ p form e q, zc4 l f p form = .ok e q -> e.lev <= f * f + 1) /\
  (∀ form e own p e' q, zdc l f form e own p = .ok e' q -> e'.lev <= max e.lev (f * f + 1) + f) /\
  (∀ p form e q, zaZ l f p form = .ok e q -> e.1.lev <= f * f + 1) /\
  (∀ p e q, zaL l f p = .ok e q -> e.lev <= f * f + 1)
 | 0 => ⟨fun _ _ _ _ h => by simp [zc4] at h, fun _ _ _ _ _ _ h => by simp [zdc] at h, fun _ _ _ _ h => by simp [zaZ] at h, fun _ _ _ h => by simp [zaL] at h⟩
 | f + 1 => by
  obtain ⟨he, hlo, hpr, hpm⟩ := zgQ f;have hsq : ((f + 1 : Nat) : Int) * ((f + 1 : Nat) : Int) = (f : Int) * f + 2 * f + 1 := by
   rw [show ((f + 1 : Nat) : Int) = (f : Int) + 1 by omega, Int.add_mul, Int.mul_add]; omega
  rw [hsq];have h0 : (0 : Int) <= (f : Int) * f := Int.mul_nonneg (by omega) (by omega);generalize hF : (f : Int) * f = F at *;refine ⟨fun p form e q h => ?_, fun form e own p e' q h => ?_, fun p form e q h => ?_, fun p e q h => ?_⟩
  ·rw [zc4] at h;obtain ⟨a, r, h1, h2⟩ := PR.zaD h;have g1 := hpr _ _ _ _ h1;have g2 := hlo _ _ _ _ _ _ h2;omega
  ·rw [zdc] at h;split at h
   ·cases h; omega
   ·split at h
    ·cases h; omega
    ·obtain ⟨a, r, h1, h2⟩ := PR.zaD h;have g1 := he _ _ _ _ h1;have g2 := hlo _ _ _ _ _ _ h2;rename_i x _ _;have g3 := Exp.zku (op := x.op) (n := 0) (u := 0) (s := []) (args := [e, a]) (B := max e.lev (F + 1)) (by
      intro y hy;simp only [List.mem_cons, List.not_mem_nil, or_false] at hy;rcases hy with rfl | rfl <;> omega) (by omega)
     omega
  ·rw [zaZ] at h;split at h
   ·obtain ⟨a, r, h1, h⟩ := PR.zaD h;obtain ⟨_, r2, h2, h⟩ := PR.zaD h;obtain ⟨b, r3, h3, h⟩ := PR.zaD h;obtain ⟨_, r4, h4, h⟩ := PR.zaD h;obtain ⟨c, r5, h5, h⟩ := PR.zaD h;cases h;have g1 := he _ _ _ _ h1;have g3 := he _ _ _ _ h3;have g5 := he _ _ _ _ h5;have := Exp.zku (op := 13) (n := 0) (u := 0) (s := []) (args := [a, b, c]) (B := F + 1) (by
     intro y hy;simp only [List.mem_cons, List.not_mem_nil, or_false] at hy;rcases hy with rfl | rfl | rfl <;> omega) (by omega)
    simp only;omega
   ·split at h
    ·obtain ⟨a, r, h1, h⟩ := PR.zaD h;cases h;have g1 := he _ _ _ _ h1;have := Exp.zku (op := 12) (n := 0) (u := 0) (s := []) (args := [a]) (B := F + 1) (by
      intro y hy;simp only [List.mem_cons, List.not_mem_nil, or_false] at hy;rcases hy with rfl; omega) (by omega)
     simp only;omega
    ·obtain ⟨a, r, h1, h⟩ := PR.zaD h;cases h;have g1 := hpm _ _ _ h1;simp only;omega
  ·have leaf : ∀ (op n u : Int) (s : List UInt8), (Exp.mk op n u s []).lev <= F + 2 * f + 1 + 1 := fun op n u s => by
    have := Exp.zku (op := op) (n := n) (u := u) (s := s) (args := []) (B := 0) (by simp) (by omega);omega
   rw [zaL] at h;split at h
   ·cases h
   ·split at h
    ·obtain ⟨a, r, h1, h⟩ := PR.zaD h;cases h; exact leaf ..
    split at h
    ·cases h; exact leaf ..
    split at h
    ·cases h; exact leaf ..
    split at h
    ·obtain ⟨_, r2, h2, h⟩ := PR.zaD h;obtain ⟨a, r3, h3, h⟩ := PR.zaD h;obtain ⟨_, r4, h4, h⟩ := PR.zaD h;obtain ⟨b, r5, h5, h⟩ := PR.zaD h;obtain ⟨_, r6, h6, h⟩ := PR.zaD h;have g3 := he _ _ _ _ h3;have g5 := he _ _ _ _ h5;have := Exp.zku (op := if isB l p [109, 97, 120] = true then 7 else 6) (n := 0) (u := 0) (s := []) (args := [a, b]) (B := F + 1) (by
      intro y hy;simp only [List.mem_cons, List.not_mem_nil, or_false] at hy;rcases hy with rfl | rfl <;> omega) (by omega)
     cases h;omega
    split at h
    ·obtain ⟨a, r3, h3, h⟩ := PR.zaD h;obtain ⟨_, r4, h4, h⟩ := PR.zaD h;cases h;have g3 := he _ _ _ _ h3;omega
    split at h
    ·cases h; exact leaf ..
    ·cases h
def zls (l : List Tok) (p : Nat) : Int := match l[p]? with | some t => t.kind | none => 0
def zdM : Exp := .mk 0 0 0 [] []
def zf5 (s : List UInt8) : Exp × Int × Int := match zkw s with
 | .error (p, e) => (zdM, p, e)
 | .ok l => match zc4 l (4 * l.length + 3) 0 0 with
  | .stop pos e => (zdM, pos, e)
  | .ok y q => if zls l q ≠ 0 then (zdM, zcR l q, 12) else if 12 < y.lev then (zdM, zcR l q, 6) else (y, 0, 0)
theorem znC {c : UInt8} {r : List UInt8} {e : Int} (h : zeN (c :: r) = .error e) : e ≠ 0 := by
 unfold zeN at h;simp only at h;split at h
 ·split at h <;> cases h;omega
 ·split at h
  ·split at h <;> cases h;omega
  ·split at h <;> cases h;omega
theorem zlm {s : List UInt8} : ∀ (f p : Nat) (q : Nat) (e : Int), zln f s p = .error (q, e) -> p <= s.length -> e ≠ 0 /\ q <= s.length
 | 0, p, q, e, h, _ => by simp [zln] at h
 | f + 1, p, q, e, h, h3 => by
  rw [zln] at h;have hle := zdA za0 (s.drop p);rw [List.length_drop] at hle;split at h
  ·cases h
  ·rename_i c r hd;have hdl : (s.drop (p + zbE za0 (s.drop p))).length = r.length + 1 := by rw [hd]; rfl
   rw [List.length_drop] at hdl;split at h
   ·rename_i ht;cases h;exact ⟨znC ht, by omega⟩
   ·rename_i t ht;obtain ⟨ht1, ht2⟩ := zfI ht;simp only [List.length_cons] at ht2;split at h
    ·rename_i x hx;cases h;exact zlm f _ q e hx (by omega)
    ·cases h
theorem zll {s : List UInt8} {q : Nat} {e : Int} (h : zkw s = .error (q, e)) : e ≠ 0 /\ q <= s.length := by
 unfold zkw at h;split at h
 ·cases h; exact ⟨by decide, by omega⟩
 ·exact zlm _ _ _ _ h (by omega)
def zpY (r : Exp × Int × Int) : D := .tup [.u (.agg r.1.row), .u (.int .i64 r.2.1), .u (.int .i64 r.2.2)]
theorem zjB (s : List UInt8) : RetX Tryz.prog 12 [.u (.str s)] [] 0 (fun r o n => r = .val (zpY (zf5 s))) := by
 unfold zf5;cases hlx : zkw s with
 | error pe =>
  obtain ⟨p, e⟩ := pe;have ho := fun nx => zle s p e nx hlx;have he := (zll hlx).1;simp only
  (refine RetX.zdo Tryz.func12 rfl (by simp) fun Γ hn hdfr hpan hesc => ?_); simp only [entry, ziC, ziN, maC, maN, oA, Tryz.ntmps12]
  repeat' (first
  | ((first | refine zae ?_ | refine zaU rfl ?_ | refine zbJ rfl ?_ | refine zaj ?_ | refine zah ?_ | refine zai ?_ | fail); simp [he])
  | (refine za8 (hC _ (by kernel_rfl)) (hk _ ?_); clear hC hk C k; simp only [zao])
  | (refine za9 rfl (by kernel_rfl) (by first | (simp [hn]; done) | (simp [hn]; omega) | fail) fun C k hC hk => ?_; simp [he])
  | (refine zaq ?_; simp only [zao])
  | (refine CallP.okL (ho _) (by first | (simp [he, zaa, getK, zab, zac, zak, zaJ, del]; done) | fail) (by rfl) (by rfl) ?_; (try simp [he, zcW, del]))
  | fail)
  refine EndW.norm ?_;simp [St.norm, zbj, zbX, zci, zcj]
  (refine EndW.here ?_; (first | (refine EndOK.fin (.inr rfl) ?_) | (refine EndOK.fin (.inl rfl) ?_)); simp [zaG, zaf, Tryz.results12]; refine FinOK.here (by simp) ?_; try simp)
  simp [zpY, Exp.row, zdM]
 | ok l =>
  obtain ⟨hl, hl2, hl0⟩ := znN hlx;have ho := fun nx => znx s l nx hlx;have hE := (zjz hl (4 * l.length + 3)).1 0 0 3 4 (by omega) hl0 (by omega) (by omega) (by omega);simp only;cases hr : zc4 l (4 * l.length + 3) 0 0 with
  | stop pos e =>
   simp only [hr] at hE ⊢
   (refine RetX.zdo Tryz.func12 rfl (by simp) fun Γ hn hdfr hpan hesc => ?_); simp only [entry, ziC, ziN, maC, maN, oA, Tryz.ntmps12]
   rw [zdq]
   repeat' (first
  | ((first | refine zae ?_ | refine zaj ?_ | refine zah ?_ | refine zai ?_ | fail); simp)
  | (refine zap ?_; simp only [zao])
  | (refine CallP.okL (ho _) (by first | (simp [zaa, getK, zab, zac, zak, zaJ, del]; done) | fail) (by rfl) (by rfl) ?_; (try simp [zcW, del]))
  | fail)
   refine zf0 hesc hdfr rfl (by simp) ?_;have hn0 := hn;have hpan0 := hpan;intro Γ' hn hpan;simp
   repeat' (first
  | ((first | refine zae ?_ | refine zah ?_ | fail); simp)
  | (refine CallP.zei (hE) (by first | (simp [zaa, getK, zab, zac]; done) | fail) (by rfl) (by first | assumption | (simp; done) | fail) (by rfl) (by simp) ?_; rintro ob' ⟨q', rfl⟩; refine ⟨_, Wk.refl _, ?_⟩)
  | fail)
   refine hpan _ _ ?_;refine LeaveD.of [(1, .box [.u (.int .i64 0)]), (2, .box [.u (.int .i64 0)]), (0, zj8)] (by simp [zaa, getK, zab, zac]) (zin 1 2 0 _ (by simp) (by simp) (by simp) (by decide) (by decide) (by decide) 0 0 _ _ 0 0 0 [] .nil) ?_;simp only [show Γ.base.n0 = 0 from hn0];simp [zcW, del];refine EndW.norm ?_;simp [St.norm, zbj, zbX, zci, zcj]
   (refine EndW.here ?_; (first | (refine EndOK.fin (.inr rfl) ?_) | (refine EndOK.fin (.inl rfl) ?_)); simp [zaG, zaf, Tryz.results12]; refine FinOK.here (by simp) ?_; try simp)
   simp [zpY, Exp.row, zdM]
  | ok y q =>
   have hEx := zde hE hr;obtain ⟨g0a, g0b⟩ := (zce hl _).1 _ _ _ _ hr hl0;have hlev := (zgQ (l := l) _).1 _ _ _ _ hr;have hlev2 : y.lev <= 1000000000 := by
    have h1 : ((4 * l.length + 3 : Nat) : Int) * ((4 * l.length + 3 : Nat) : Int) <= 8007 * 8007 := Int.mul_le_mul (by omega) (by omega) (by omega) (by omega);omega
   have hlv := zhR (SizeOf.sizeOf y) y (Nat.le_refl _) hlev2;rw [Exp.row_eq] at hlv;obtain ⟨t, ht⟩ : ∃ t, l[q]? = some t := ⟨_, List.getElem?_eq_getElem g0b⟩;have hnx := zbW l q t ht hl.len;have hka : zls l q = t.kind := by unfold zls; rw [ht]
   have hpa : zcR l q = t.pos := by unfold zcR; rw [ht]
   simp only [hka, hpa];by_cases hk : t.kind = 0
   ·have hc1 := fun nx (h : 3 < nx) => zdF l q 12 3 nx h;rw [if_neg (by simp [hk])];by_cases hv : 12 < y.lev
    ·have hc2 := fun nx (h : 3 < nx) => zcG l q t 6 3 nx h ht hl.len;have hv2 : ¬ y.lev <= 12 := by omega
     rw [if_pos hv]
     (refine RetX.zdo Tryz.func12 rfl (by simp) fun Γ hn hdfr hpan hesc => ?_); simp only [entry, ziC, ziN, maC, maN, oA, Tryz.ntmps12]
     rw [zdq]
     repeat' (first
  | ((first | refine zae ?_ | refine zaj ?_ | refine zah ?_ | refine zai ?_ | fail); simp)
  | (refine zap ?_; simp only [zao])
  | (refine CallP.okL (ho _) (by first | (simp [zaa, getK, zab, zac, zak, zaJ, del]; done) | fail) (by rfl) (by rfl) ?_; (try simp [zcW, del]))
  | fail)
     refine zf0 hesc hdfr rfl (by simp) ?_;have hn0 := hn;have hpan0 := hpan;intro Γ' hn hpan;simp
     repeat' (first
  | ((first | refine zae ?_ | refine zaj ?_ | refine zah ?_ | fail); simp [hk, hv, hv2, del])
  | (refine CallP.fE (hlv) (by first | rfl | fail) (by first | simp [hk, hv, hv2, del] <;> rfl | fail) ?_; (try simp [hk, hv, hv2, del]))
  | (refine CallP.fE (hnx) (by first | rfl | fail) (by first | simp [hk, hv, hv2, del] <;> rfl | fail) ?_; (try simp [hk, hv, hv2, del]))
  | (refine CallP.ok1 (hEx) (by first | (simp [hk, hv, hv2, del, zaa, getK, zab, zac]; done) | fail) (by rfl) (by rfl) ?_; (try simp [hk, hv, hv2, del]))
  | (refine CallP.ok1 (hc1 _ (by simp)) (by first | (simp [hk, hv, hv2, del, zaa, getK, zab, zac]; done) | fail) (by rfl) (by rfl) ?_; (try simp [hk, hv, hv2, del]))
  | (refine CallP.zei (hc2 _ (by simp)) (by first | (simp [hk, hv, hv2, del, zaa, getK, zab, zac]; done) | fail) (by rfl) (by first | assumption | (simp; done) | fail) (by rfl) (by simp) ?_; rintro ob' ⟨q', rfl⟩; refine ⟨_, Wk.refl _, ?_⟩)
  | fail)
     refine hpan _ _ ?_;refine LeaveD.of [(1, .box [.u (.int .i64 0)]), (2, .box [.u (.int .i64 0)]), (0, zj8)] (by simp [zaa, getK, zab, zac]) (zin 1 2 0 _ (by simp) (by simp) (by simp) (by decide) (by decide) (by decide) 0 0 _ _ 0 0 0 [] .nil) ?_;simp only [show Γ.base.n0 = 0 from hn0];simp [zcW, del];refine EndW.norm ?_;simp [St.norm, zbj, zbX, zci, zcj]
     (refine EndW.here ?_; (first | (refine EndOK.fin (.inr rfl) ?_) | (refine EndOK.fin (.inl rfl) ?_)); simp [zaG, zaf, Tryz.results12]; refine FinOK.here (by simp) ?_; try simp)
     simp [zpY, Exp.row, zdM]
    ·have hc2 := fun nx (h : 3 < nx) => zdF l q 6 3 nx h;have hv2 : y.lev <= 12 := by omega
     rw [if_neg hv]
     (refine RetX.zdo Tryz.func12 rfl (by simp) fun Γ hn hdfr hpan hesc => ?_); simp only [entry, ziC, ziN, maC, maN, oA, Tryz.ntmps12]
     rw [zdq]
     repeat' (first
  | ((first | refine zae ?_ | refine zaj ?_ | refine zah ?_ | refine zai ?_ | fail); simp)
  | (refine zap ?_; simp only [zao])
  | (refine CallP.okL (ho _) (by first | (simp [zaa, getK, zab, zac, zak, zaJ, del]; done) | fail) (by rfl) (by rfl) ?_; (try simp [zcW, del]))
  | fail)
     refine zf0 hesc hdfr rfl (by simp) ?_;have hn0 := hn;have hpan0 := hpan;intro Γ' hn hpan;simp
     repeat' (first
  | ((first | refine zae ?_ | refine zaj ?_ | refine zah ?_ | fail); simp [hk, hv, hv2, del])
  | (refine zaq ?_; simp only [zao])
  | (refine CallP.fE (hlv) (by first | rfl | fail) (by first | simp [hk, hv, hv2, del] <;> rfl | fail) ?_; (try simp [hk, hv, hv2, del]))
  | (refine CallP.fE (hnx) (by first | rfl | fail) (by first | simp [hk, hv, hv2, del] <;> rfl | fail) ?_; (try simp [hk, hv, hv2, del]))
  | (refine CallP.ok1 (hEx) (by first | (simp [hk, hv, hv2, del, zaa, getK, zab, zac]; done) | fail) (by rfl) (by rfl) ?_; (try simp [hk, hv, hv2, del]))
  | (refine CallP.ok1 (hc1 _ (by simp)) (by first | (simp [hk, hv, hv2, del, zaa, getK, zab, zac]; done) | fail) (by rfl) (by rfl) ?_; (try simp [hk, hv, hv2, del]))
  | (refine CallP.ok1 (hc2 _ (by simp)) (by first | (simp [hk, hv, hv2, del, zaa, getK, zab, zac]; done) | fail) (by rfl) (by rfl) ?_; (try simp [hk, hv, hv2, del]))
  | fail)
     refine ⟨rfl, ?_⟩;refine LeaveD.of [(1, .box [.u (.int .i64 0)]), (2, .box [.u (.int .i64 0)]), (0, .box ([.int .i64 y.op, .int .i64 y.n, .int .i64 y.unit, .str y.s, .sl (y.args.map Exp.row)].map .u))] (by simp [zaa, getK, zab, zac]) (zoV 1 2 0 _ (by simp) (by simp) (by simp) (by decide) (by decide) (by decide) 0 0 _) ?_;simp only [show Γ.base.n0 = 0 from hn0];simp [zcW, del]
     (refine EndW.here ?_; (first | (refine EndOK.fin (.inr rfl) ?_) | (refine EndOK.fin (.inl rfl) ?_)); simp [zaG, zaf, Tryz.results12]; refine FinOK.here (by simp) ?_; try simp)
     simp [zpY, Exp.row_eq]
   ·have hc1 := fun nx (h : 3 < nx) => zcG l q t 12 3 nx h ht hl.len;rw [if_pos hk]
    (refine RetX.zdo Tryz.func12 rfl (by simp) fun Γ hn hdfr hpan hesc => ?_); simp only [entry, ziC, ziN, maC, maN, oA, Tryz.ntmps12]
    rw [zdq]
    repeat' (first
  | ((first | refine zae ?_ | refine zaj ?_ | refine zah ?_ | refine zai ?_ | fail); simp)
  | (refine zap ?_; simp only [zao])
  | (refine CallP.okL (ho _) (by first | (simp [zaa, getK, zab, zac, zak, zaJ, del]; done) | fail) (by rfl) (by rfl) ?_; (try simp [zcW, del]))
  | fail)
    refine zf0 hesc hdfr rfl (by simp) ?_;have hn0 := hn;have hpan0 := hpan;intro Γ' hn hpan;simp
    repeat' (first
  | ((first | refine zae ?_ | refine zaj ?_ | refine zah ?_ | fail); simp [hk, del])
  | (refine CallP.fE (hnx) (by first | rfl | fail) (by first | simp [hk, del] <;> rfl | fail) ?_; (try simp [hk, del]))
  | (refine CallP.ok1 (hEx) (by first | (simp [hk, del, zaa, getK, zab, zac]; done) | fail) (by rfl) (by rfl) ?_; (try simp [hk, del]))
  | (refine CallP.zei (hc1 _ (by simp)) (by first | (simp [hk, del, zaa, getK, zab, zac]; done) | fail) (by rfl) (by first | assumption | (simp; done) | fail) (by rfl) (by simp) ?_; rintro ob' ⟨q', rfl⟩; refine ⟨_, Wk.refl _, ?_⟩)
  | fail)
    refine hpan _ _ ?_;refine LeaveD.of [(1, .box [.u (.int .i64 0)]), (2, .box [.u (.int .i64 0)]), (0, zj8)] (by simp [zaa, getK, zab, zac]) (zin 1 2 0 _ (by simp) (by simp) (by simp) (by decide) (by decide) (by decide) 0 0 _ _ 0 0 0 [] .nil) ?_;simp only [show Γ.base.n0 = 0 from hn0];simp [zcW, del];refine EndW.norm ?_;simp [St.norm, zbj, zbX, zci, zcj]
    (refine EndW.here ?_; (first | (refine EndOK.fin (.inr rfl) ?_) | (refine EndOK.fin (.inl rfl) ?_)); simp [zaG, zaf, Tryz.results12]; refine FinOK.here (by simp) ?_; try simp)
    simp [zpY, Exp.row, zdM]
theorem zjC (s : List UInt8) : Fun Tryz.prog 12 [.u (.str s)] (· = .tup [zhz (zf5 s).1, .u (.int .i64 (zf5 s).2.1), .u (.int .i64 (zf5 s).2.2)]) := by
 unfold Fun;exact (zjB s).ret (fun d o n h => by
  cases h;refine ⟨by simp [zpY, zar], ?_⟩;rw [zpY, Exp.row_eq];rfl) (fun ch o n h => by cases h)
theorem zmf (l : List Tok) (p : Nat) (a b : Int) (i nx : Nat) (hi : i < nx) (hp : p < l.length) (hl : TokOK l) :
  RetX Tryz.prog 128 [.ptr i 0, ziB a, ziB b] [(i, pOb l p)] nx (PPost l i nx ziB (zp2 l p a b)) := by
 have hne := zaB hi;obtain ⟨t, ht⟩ : ∃ t, l[p]? = some t := ⟨_, List.getElem?_eq_getElem hp⟩;have hnx := zbW l p t ht hl.len;have hll := hl.len;have hc1 := fun e nx' (h : nx <= nx') => zdF l p e i nx' (by omega);have hc2 := fun e nx' (h : nx <= nx') => zcG l p t e i nx' (by omega) ht hl.len;rw [zp2, ht];by_cases hk2 : t.kind = 2
 ·simp only [hk2, if_true];by_cases h1 : a <= t.n
  ·by_cases h2 : t.n <= b
   ·simp only [h1, h2, and_self, if_true]
    (refine RetX.of_bodyW Tryz.func128 rfl (by simp) fun Γ hn hpan => ?_); simp only [entry, ziC, ziN, maC, maN, oA, Tryz.ntmps128]
    repeat' (first
  | ((first | refine zae ?_ | refine zaj ?_ | fail); simp [hne, hk2, h1, h2, del])
  | (refine ⟨by omega, ?_⟩)
  | (refine zah ?_; simp [hne, hk2, h1, h2, del])
  | (refine zaq ?_; simp only [zao])
  | (refine CallP.fE (hnx) (by first | rfl | fail) (by first | simp [hne, hk2, h1, h2, del] <;> rfl | fail) ?_; (try simp [hne, hk2, h1, h2, del]))
  | (refine CallP.ok1 (hc1 _ _ (by first | omega | simp <;> omega | fail)) (by first | (simp [hne, hk2, h1, h2, del, zaa, getK, zab, zac]; done) | fail) (by rfl) (by rfl) ?_; (try simp [hne, hk2, h1, h2, del]))
  | fail)
    (refine EndW.here ?_; (first | (refine EndOK.fin (.inr rfl) ?_) | (refine EndOK.fin (.inl rfl) ?_)); simp [zaG, zaf, Tryz.results128, hne, hi]; refine FinOK.cut [(i, pOb l (p + 1))] (nx) (by simp [zaa, getK, zab, zac, Ob.under, D.under, zad, zag, hne, hi] <;> omega) (by simp [D.under]) (by simp [hn]) ?_; try simp)
    exact PPost.zcm rfl rfl rfl
   ·simp only [h1, h2, and_false, if_false]
    (refine RetX.of_bodyW Tryz.func128 rfl (by simp) fun Γ hn hpan => ?_); simp only [entry, ziC, ziN, maC, maN, oA, Tryz.ntmps128]
    repeat' (first
  | ((first | refine zae ?_ | refine zaj ?_ | refine zah ?_ | fail); simp [hne, hk2, h1, h2, del])
  | (refine CallP.fE (hnx) (by first | rfl | fail) (by first | simp [hne, hk2, h1, h2, del] <;> rfl | fail) ?_; (try simp [hne, hk2, h1, h2, del]))
  | (refine CallP.ok1 (hc1 _ _ (by first | omega | simp <;> omega | fail)) (by first | (simp [hne, hk2, h1, h2, del, zaa, getK, zab, zac]; done) | fail) (by rfl) (by rfl) ?_; (try simp [hne, hk2, h1, h2, del]))
  | (refine CallP.zei (hc2 _ _ (by first | omega | simp <;> omega | fail)) (by first | (simp [hne, hk2, h1, h2, del, zaa, getK, zab, zac]; done) | fail) (by rfl) (by first | assumption | (simp; done) | fail) (by rfl) (by simp) ?_; rintro ob' ⟨q', rfl⟩; refine ⟨_, Wk.refl _, ?_⟩)
  | fail)
    (refine hpan _ _ ⟨{ n := _, env := [], obs := [(i, pOb l q')], next := nx }, (Wk.cut rfl (by simp [hn]) (by simp [wkO, zaa, getK, zab, zac, Ob.under, D.under, zad, zag, hi, hne, zab, zac, zaa, getK]) (by simp [wkU, zan, zaa, getK, D.under, hi, hne, zab, zac, zaa, getK]) (by simp [wkE, zan, zaa, getK, hi, hne, zab, zac, zaa, getK])), by simp [hn], ?_⟩; try simp)
    exact PPost.zay (by simp [PR.bind, *])
  ·simp only [h1, false_and, if_false]
   (refine RetX.of_bodyW Tryz.func128 rfl (by simp) fun Γ hn hpan => ?_); simp only [entry, ziC, ziN, maC, maN, oA, Tryz.ntmps128]
   repeat' (first
  | ((first | refine zae ?_ | refine zaj ?_ | refine zah ?_ | fail); simp [hne, hk2, h1, del])
  | (refine CallP.fE (hnx) (by first | rfl | fail) (by first | simp [hne, hk2, h1, del] <;> rfl | fail) ?_; (try simp [hne, hk2, h1, del]))
  | (refine CallP.ok1 (hc1 _ _ (by first | omega | simp <;> omega | fail)) (by first | (simp [hne, hk2, h1, del, zaa, getK, zab, zac]; done) | fail) (by rfl) (by rfl) ?_; (try simp [hne, hk2, h1, del]))
  | (refine CallP.zei (hc2 _ _ (by first | omega | simp <;> omega | fail)) (by first | (simp [hne, hk2, h1, del, zaa, getK, zab, zac]; done) | fail) (by rfl) (by first | assumption | (simp; done) | fail) (by rfl) (by simp) ?_; rintro ob' ⟨q', rfl⟩; refine ⟨_, Wk.refl _, ?_⟩)
  | fail)
   (refine hpan _ _ ⟨{ n := _, env := [], obs := [(i, pOb l q')], next := nx }, (Wk.cut rfl (by simp [hn]) (by simp [wkO, zaa, getK, zab, zac, Ob.under, D.under, zad, zag, hi, hne, zab, zac, zaa, getK]) (by simp [wkU, zan, zaa, getK, D.under, hi, hne, zab, zac, zaa, getK]) (by simp [wkE, zan, zaa, getK, hi, hne, zab, zac, zaa, getK])), by simp [hn], ?_⟩; try simp)
   exact PPost.zay (by simp [PR.bind, *])
 ·simp only [hk2, if_false]
  (refine RetX.of_bodyW Tryz.func128 rfl (by simp) fun Γ hn hpan => ?_); simp only [entry, ziC, ziN, maC, maN, oA, Tryz.ntmps128]
  repeat' (first
  | ((first | refine zae ?_ | refine zaj ?_ | refine zah ?_ | fail); simp [hne, hk2, del])
  | (refine CallP.fE (hnx) (by first | rfl | fail) (by first | simp [hne, hk2, del] <;> rfl | fail) ?_; (try simp [hne, hk2, del]))
  | (refine CallP.zei (hc2 _ _ (by first | omega | simp <;> omega | fail)) (by first | (simp [hne, hk2, del, zaa, getK, zab, zac]; done) | fail) (by rfl) (by first | assumption | (simp; done) | fail) (by rfl) (by simp) ?_; rintro ob' ⟨q', rfl⟩; refine ⟨_, Wk.refl _, ?_⟩)
  | fail)
  (refine hpan _ _ ⟨{ n := _, env := [], obs := [(i, pOb l q')], next := nx }, (Wk.cut rfl (by simp [hn]) (by simp [wkO, zaa, getK, zab, zac, Ob.under, D.under, zad, zag, hi, hne, zab, zac, zaa, getK]) (by simp [wkU, zan, zaa, getK, D.under, hi, hne, zab, zac, zaa, getK]) (by simp [wkE, zan, zaa, getK, hi, hne, zab, zac, zaa, getK])), by simp [hn], ?_⟩; try simp)
  exact PPost.zay (by simp [PR.bind, *])
theorem znz {l : List Tok} (hl : TokOK l) {p q : Nat} {a b n : Int} (h : zp2 l p a b = .ok n q) : p <= q /\ q < l.length := by
 unfold zp2 at h;split at h
 ·cases h
 ·rename_i t ht;split at h
  ·rename_i hk2;split at h
   ·cases h;exact ⟨by omega, hl.fin p t ht (by omega)⟩
   ·cases h
  ·cases h
theorem zdC (l : List Tok) (p : Nat) (w : List UInt8) (a b : Int) (ws : List (List UInt8)) (i nx : Nat) (hi : i < nx) (hp : p < l.length) (hl : TokOK l) (hw : ws.length <= 100) :
  RetX Tryz.prog 80 [.ptr i 0, .u (.str w), ziB a, ziB b, .u (.sl (ws.map fun w => [.str w]))] [(i, pOb l p)] nx (PPost l i nx ziB (zdw l p w a b ws)) := by
 have hne := zaB hi;have hh1 := fun nx' (h : nx <= nx') => zbk l p w i nx' (by omega) hp hl.len;rw [zdw];cases hb : isB l p w with
 | false =>
  simp only [hb, Bool.false_eq_true, if_false] at hh1 ⊢
  (refine RetX.of_bodyW Tryz.func80 rfl (by simp) fun Γ hn hpan => ?_); simp only [entry, ziC, ziN, maC, maN, oA, Tryz.ntmps80]
  repeat' (first
  | ((first | refine zae ?_ | refine zaj ?_ | refine zah ?_ | refine zai ?_ | fail); simp [hne, del])
  | (refine zaq ?_; simp only [zao])
  | (refine CallP.ok1 (hh1 _ (by first | omega | simp <;> omega | fail)) (by first | (simp [hne, del, zaa, getK, zab, zac]; done) | fail) (by rfl) (by rfl) ?_; (try simp [hne, del]))
  | fail)
  (refine EndW.here ?_; (first | (refine EndOK.fin (.inr rfl) ?_) | (refine EndOK.fin (.inl rfl) ?_)); simp [zaG, zaf, Tryz.results80, hne, hi]; refine FinOK.cut [(i, pOb l p)] (nx) (by simp [zaa, getK, zab, zac, Ob.under, D.under, zad, zag, hne, hi] <;> omega) (by simp [D.under]) (by simp [hn]) ?_; try simp)
  exact PPost.zcm rfl rfl rfl
 | true =>
  have hp2 := zbd hl hb;simp only [hb, if_true] at hh1 ⊢;have hn1 := fun nx' (h : nx <= nx') => zmf l (p + 1) a b i nx' (by omega) hp2 hl;cases hr0 : zp2 l (p + 1) a b with
  | stop pos e =>
   simp only [hr0] at hn1
   (refine RetX.of_bodyW Tryz.func80 rfl (by simp) fun Γ hn hpan => ?_); simp only [entry, ziC, ziN, maC, maN, oA, Tryz.ntmps80]
   repeat' (first
  | ((first | refine zae ?_ | refine zaj ?_ | refine zah ?_ | refine zai ?_ | fail); simp [hne, del])
  | (refine zap ?_; simp only [zao])
  | (refine CallP.ok1 (hh1 _ (by first | omega | simp <;> omega | fail)) (by first | (simp [hne, del, zaa, getK, zab, zac]; done) | fail) (by rfl) (by rfl) ?_; (try simp [hne, del]))
  | (refine CallP.zei (hn1 _ (by first | omega | simp <;> omega | fail)) (by first | (simp [hne, del, zaa, getK, zab, zac]; done) | fail) (by rfl) (by first | assumption | (simp; done) | fail) (by rfl) (by simp) ?_; rintro ob' ⟨q', rfl⟩; refine ⟨_, Wk.refl _, ?_⟩)
  | fail)
   (refine hpan _ _ ⟨{ n := _, env := [], obs := [(i, pOb l q')], next := nx }, (Wk.cut rfl (by simp [hn]) (by simp [wkO, zaa, getK, zab, zac, Ob.under, D.under, zad, zag, hi, hne, zab, zac, zaa, getK]) (by simp [wkU, zan, zaa, getK, D.under, hi, hne, zab, zac, zaa, getK]) (by simp [wkE, zan, zaa, getK, hi, hne, zab, zac, zaa, getK])), by simp [hn], ?_⟩; try simp)
   exact PPost.zay (by simp [PR.bind, *])
  | ok n q0 =>
   simp only [hr0] at hn1;obtain ⟨g0a, g0b⟩ := znz hl hr0;have hw1 := fun nx' (h : nx <= nx') => zh9 l q0 ws i nx' (by omega) g0b hl hw;cases hr1 : zbt l q0 ws with
   | stop pos e =>
    simp only [hr1] at hw1
    (refine RetX.of_bodyW Tryz.func80 rfl (by simp) fun Γ hn hpan => ?_); simp only [entry, ziC, ziN, maC, maN, oA, Tryz.ntmps80]
    repeat' (first
  | ((first | refine zae ?_ | refine zaj ?_ | refine zah ?_ | refine zai ?_ | fail); simp [hne, del])
  | (refine zap ?_; simp only [zao])
  | (refine CallP.ok1 (hh1 _ (by first | omega | simp <;> omega | fail)) (by first | (simp [hne, del, zaa, getK, zab, zac]; done) | fail) (by rfl) (by rfl) ?_; (try simp [hne, del]))
  | (refine CallP.ok1 (hn1 _ (by first | omega | simp <;> omega | fail)) (by first | (simp [hne, del, zaa, getK, zab, zac]; done) | fail) (by rfl) (by rfl) ?_; (try simp [hne, del]))
  | (refine CallP.zei (hw1 _ (by first | omega | simp <;> omega | fail)) (by first | (simp [hne, del, zaa, getK, zab, zac]; done) | fail) (by rfl) (by first | assumption | (simp; done) | fail) (by rfl) (by simp) ?_; rintro ob' ⟨q', rfl⟩; refine ⟨_, Wk.refl _, ?_⟩)
  | fail)
    (refine hpan _ _ ⟨{ n := _, env := [], obs := [(i, pOb l q')], next := nx }, (Wk.cut rfl (by simp [hn]) (by simp [wkO, zaa, getK, zab, zac, Ob.under, D.under, zad, zag, hi, hne, zab, zac, zaa, getK]) (by simp [wkU, zan, zaa, getK, D.under, hi, hne, zab, zac, zaa, getK]) (by simp [wkE, zan, zaa, getK, hi, hne, zab, zac, zaa, getK])), by simp [hn], ?_⟩; try simp)
    exact PPost.zay (by simp [PR.bind, *])
   | ok u q =>
    simp only [hr1] at hw1
    (refine RetX.of_bodyW Tryz.func80 rfl (by simp) fun Γ hn hpan => ?_); simp only [entry, ziC, ziN, maC, maN, oA, Tryz.ntmps80]
    repeat' (first
  | ((first | refine zae ?_ | refine zaj ?_ | refine zah ?_ | refine zai ?_ | fail); simp [hne, del])
  | ((first | refine zaq ?_ | refine zap ?_ | fail); simp only [zao])
  | (refine CallP.ok1 (hh1 _ (by first | omega | simp <;> omega | fail)) (by first | (simp [hne, del, zaa, getK, zab, zac]; done) | fail) (by rfl) (by rfl) ?_; (try simp [hne, del]))
  | (refine CallP.ok1 (hn1 _ (by first | omega | simp <;> omega | fail)) (by first | (simp [hne, del, zaa, getK, zab, zac]; done) | fail) (by rfl) (by rfl) ?_; (try simp [hne, del]))
  | (refine CallP.ok1 (hw1 _ (by first | omega | simp <;> omega | fail)) (by first | (simp [hne, del, zaa, getK, zab, zac]; done) | fail) (by rfl) (by rfl) ?_; (try simp [hne, del]))
  | fail)
    (refine EndW.here ?_; (first | (refine EndOK.fin (.inr rfl) ?_) | (refine EndOK.fin (.inl rfl) ?_)); simp [zaG, zaf, Tryz.results80, hne, hi]; refine FinOK.cut [(i, pOb l q)] (nx) (by simp [zaa, getK, zab, zac, Ob.under, D.under, zad, zag, hne, hi] <;> omega) (by simp [D.under]) (by simp [hn]) ?_; try simp)
    exact PPost.zcm (by simp [PR.bind, *]) rfl rfl
theorem zdD {l : List Tok} (hl : TokOK l) {p q : Nat} {w : List UInt8} {a b n : Int} {ws : List (List UInt8)} (h : zdw l p w a b ws = .ok n q) (hp : p < l.length) : p <= q /\ q < l.length := by
 unfold zdw at h;split at h
 ·obtain ⟨m, r, h1, h⟩ := PR.zaD h;have g1 := znz hl h1;obtain ⟨m2, r2, h2, h⟩ := PR.zaD h;have g2 := za2 hl _ h2 g1.2;cases h;exact ⟨by omega, g2.2⟩
 ·cases h; exact ⟨by omega, hp⟩
theorem zgy (l : List Tok) (p : Nat) (i nx : Nat) (hi : i < nx) (hp : p < l.length) (hl : TokOK l) (hl2 : l.length <= 2001) :
  RetX Tryz.prog 84 [.ptr i 0] [(i, pOb l p)] nx (PPost l i nx zee (zdz l p)) := by
 have hne := zaB hi;have hll := hl.len;rw [zdz];have hE := fun nx' (h : nx <= nx') => (zjz hl (4 * l.length + 3)).1 p 0 i nx' (by omega) hp (by omega) (by omega) (by omega);cases hr : zc4 l (4 * l.length + 3) p 0 with
 | stop pos e =>
  simp only [hr] at hE
  (refine RetX.of_bodyW Tryz.func84 rfl (by simp) fun Γ hn hpan => ?_); simp only [entry, ziC, ziN, maC, maN, oA, Tryz.ntmps84]
  repeat' (first
  | ((first | refine zae ?_ | refine zaj ?_ | refine zah ?_ | fail); simp [hne, del])
  | (refine CallP.zei (hE _ (by first | omega | simp <;> omega | fail)) (by first | (simp [hne, del, zaa, getK, zab, zac]; done) | fail) (by rfl) (by first | assumption | (simp; done) | fail) (by rfl) (by simp) ?_; rintro ob' ⟨q', rfl⟩; refine ⟨_, Wk.refl _, ?_⟩)
  | fail)
  (refine hpan _ _ ⟨{ n := _, env := [], obs := [(i, pOb l q')], next := nx }, (Wk.cut rfl (by simp [hn]) (by simp [wkO, zaa, getK, zab, zac, Ob.under, D.under, zad, zag, hi, hne, zab, zac, zaa, getK]) (by simp [wkU, zan, zaa, getK, D.under, hi, hne, zab, zac, zaa, getK]) (by simp [wkE, zan, zaa, getK, hi, hne, zab, zac, zaa, getK])), by simp [hn], ?_⟩; try simp)
  exact PPost.zay (by simp [PR.bind, *])
 | ok y q =>
  have hEx := fun nx' h => zde (hE nx' h) hr;obtain ⟨g0a, g0b⟩ := (zce hl _).1 _ _ _ _ hr hp;have hlev := (zgQ (l := l) _).1 _ _ _ _ hr;have hlev2 : y.lev <= 1000000000 := by
   have h1 : ((4 * l.length + 3 : Nat) : Int) * ((4 * l.length + 3 : Nat) : Int) <= 8007 * 8007 := Int.mul_le_mul (by omega) (by omega) (by omega) (by omega);omega
  have hlv := zhR (SizeOf.sizeOf y) y (Nat.le_refl _) hlev2;rw [Exp.row_eq] at hlv;obtain ⟨t, ht⟩ : ∃ t, l[q]? = some t := ⟨_, List.getElem?_eq_getElem g0b⟩;have his := zed l q [59] g0b hl.len;have hpa : zcR l q = t.pos := by unfold zcR; rw [ht]
  have hc1 := fun e nx' (h : nx <= nx') => zdF l q e i nx' (by omega);have hc2 := fun e nx' (h : nx <= nx') => zcG l q t e i nx' (by omega) ht hl.len;rw [PR.zat, hpa];cases hb : isB l q [59] with
  | false =>
   simp only [hb, Bool.false_eq_true, if_false] at his ⊢
   (refine RetX.of_bodyW Tryz.func84 rfl (by simp) fun Γ hn hpan => ?_); simp only [entry, ziC, ziN, maC, maN, oA, Tryz.ntmps84]
   repeat' (first
  | ((first | refine zae ?_ | refine zaj ?_ | refine zah ?_ | fail); simp [hne, del])
  | (refine CallP.fE (his) (by first | rfl | fail) (by first | simp [hne, del] <;> rfl | fail) ?_; (try simp [hne, del]))
  | (refine CallP.ok1 (hEx _ (by first | omega | simp <;> omega | fail)) (by first | (simp [hne, del, zaa, getK, zab, zac]; done) | fail) (by rfl) (by rfl) ?_; (try simp [hne, del]))
  | (refine CallP.zei (hc2 _ _ (by first | omega | simp <;> omega | fail)) (by first | (simp [hne, del, zaa, getK, zab, zac]; done) | fail) (by rfl) (by first | assumption | (simp; done) | fail) (by rfl) (by simp) ?_; rintro ob' ⟨q', rfl⟩; refine ⟨_, Wk.refl _, ?_⟩)
  | fail)
   (refine hpan _ _ ⟨{ n := _, env := [], obs := [(i, pOb l q')], next := nx }, (Wk.cut rfl (by simp [hn]) (by simp [wkO, zaa, getK, zab, zac, Ob.under, D.under, zad, zag, hi, hne, zab, zac, zaa, getK]) (by simp [wkU, zan, zaa, getK, D.under, hi, hne, zab, zac, zaa, getK]) (by simp [wkE, zan, zaa, getK, hi, hne, zab, zac, zaa, getK])), by simp [hn], ?_⟩; try simp)
   exact PPost.zay (by simp [PR.bind, *])
  | true =>
   have hq2 := zbd hl hb;simp only [hb, if_true] at his ⊢;by_cases hv : y.lev <= 12
   ·simp only [hv, if_true]
    (refine RetX.of_bodyW Tryz.func84 rfl (by simp) fun Γ hn hpan => ?_); simp only [entry, ziC, ziN, maC, maN, oA, Tryz.ntmps84]
    repeat' (first
  | ((first | refine zae ?_ | refine zaj ?_ | fail); simp [hne, del, hv])
  | (refine ⟨by omega, ?_⟩)
  | (refine zah ?_; simp [hne, del, hv])
  | (refine zaq ?_; simp only [zao])
  | (refine CallP.fE (his) (by first | rfl | fail) (by first | simp [hne, del, hv] <;> rfl | fail) ?_; (try simp [hne, del, hv]))
  | (refine CallP.fE (hlv) (by first | rfl | fail) (by first | simp [hne, del, hv] <;> rfl | fail) ?_; (try simp [hne, del, hv]))
  | (refine CallP.ok1 (hEx _ (by first | omega | simp <;> omega | fail)) (by first | (simp [hne, del, hv, zaa, getK, zab, zac]; done) | fail) (by rfl) (by rfl) ?_; (try simp [hne, del, hv]))
  | (refine CallP.ok1 (hc1 _ _ (by first | omega | simp <;> omega | fail)) (by first | (simp [hne, del, hv, zaa, getK, zab, zac]; done) | fail) (by rfl) (by rfl) ?_; (try simp [hne, del, hv]))
  | fail)
    refine EndW.norm ?_;simp [St.norm, zbj, zbX, zci, zcj, hne, nAA]
    (refine EndW.here ?_; (first | (refine EndOK.fin (.inr rfl) ?_) | (refine EndOK.fin (.inl rfl) ?_)); simp [zaG, zaf, Tryz.results84, hne, hi]; refine FinOK.cut [(i, pOb l (q + 1))] (nx) (by simp [zaa, getK, zab, zac, Ob.under, D.under, zad, zag, hne, hi] <;> omega) (by simp [D.under]) (by simp [hn]) ?_; try simp)
    exact PPost.zcm rfl (by simp [Exp.row_eq]) rfl
   ·simp only [hv, if_false]
    (refine RetX.of_bodyW Tryz.func84 rfl (by simp) fun Γ hn hpan => ?_); simp only [entry, ziC, ziN, maC, maN, oA, Tryz.ntmps84]
    repeat' (first
  | ((first | refine zae ?_ | refine zaj ?_ | refine zah ?_ | fail); simp [hne, del, hv])
  | (refine CallP.fE (his) (by first | rfl | fail) (by first | simp [hne, del, hv] <;> rfl | fail) ?_; (try simp [hne, del, hv]))
  | (refine CallP.fE (hlv) (by first | rfl | fail) (by first | simp [hne, del, hv] <;> rfl | fail) ?_; (try simp [hne, del, hv]))
  | (refine CallP.ok1 (hEx _ (by first | omega | simp <;> omega | fail)) (by first | (simp [hne, del, hv, zaa, getK, zab, zac]; done) | fail) (by rfl) (by rfl) ?_; (try simp [hne, del, hv]))
  | (refine CallP.ok1 (hc1 _ _ (by first | omega | simp <;> omega | fail)) (by first | (simp [hne, del, hv, zaa, getK, zab, zac]; done) | fail) (by rfl) (by rfl) ?_; (try simp [hne, del, hv]))
  | (refine CallP.zei (hc2 _ _ (by first | omega | simp <;> omega | fail)) (by first | (simp [hne, del, hv, zaa, getK, zab, zac]; done) | fail) (by rfl) (by first | assumption | (simp; done) | fail) (by rfl) (by simp) ?_; rintro ob' ⟨q', rfl⟩; refine ⟨_, Wk.refl _, ?_⟩)
  | fail)
    (refine hpan _ _ ⟨{ n := _, env := [], obs := [(i, pOb l q')], next := nx }, (Wk.cut rfl (by simp [hn]) (by simp [wkO, zaa, getK, zab, zac, Ob.under, D.under, zad, zag, hi, hne, zab, zac, zaa, getK]) (by simp [wkU, zan, zaa, getK, D.under, hi, hne, zab, zac, zaa, getK]) (by simp [wkE, zan, zaa, getK, hi, hne, zab, zac, zaa, getK])), by simp [hn], ?_⟩; try simp)
    exact PPost.zay (by simp [PR.bind, *])
theorem zgB {l : List Tok} (hl : TokOK l) {p q : Nat} {e : Exp} (h : zdz l p = .ok e q) (hp : p < l.length) : p <= q /\ q < l.length := by
 unfold zdz at h;obtain ⟨y, r, h1, h⟩ := PR.zaD h;have g1 := (zce hl _).1 _ _ _ _ h1 hp;split at h
 ·rename_i hb;split at h
  ·cases h;exact ⟨by omega, zbd hl hb⟩
  ·cases h
 ·cases h
theorem zgV : Fun Tryz.prog 58 [] (· = .u (.agg nothingE.row)) := by
 simp only [nothingE, Exp.row, List.map_nil]
 (refine Fun.of_bodyW Tryz.func58 rfl (by simp) fun Γ hn => ?_); simp only [entry, ziC, ziN, maC, maN, oA, Tryz.ntmps58]
 repeat' (first
  | ((first | refine zae ?_ | refine zaj ?_ | refine zah ?_ | fail); simp)
  | (refine zaq ?_; simp only [zao])
  | fail)
 refine EndW.norm ?_;simp [St.norm, zbj, zbX, zci, zcj];refine EndW.here ?_
 (refine EndOK.val (.inr rfl) ?_; simp [zaG, zaf, zar, Tryz.results58])
theorem zeI (l : List Tok) (p : Nat) (w : List UInt8) (i nx : Nat) (hi : i < nx) (hp : p < l.length) (hl : TokOK l) (hl2 : l.length <= 2001) :
  RetX Tryz.prog 85 [.ptr i 0, .u (.str w)] [(i, pOb l p)] nx (PPost l i nx zee (zcw l p w)) := by
 have hne := zaB hi;have hh1 := fun nx' (h : nx <= nx') => zbk l p w i nx' (by omega) hp hl.len;rw [zcw];cases hb : isB l p w with
 | false =>
  have h0 := zgV;simp only [nothingE, Exp.row, List.map_nil] at h0;simp only [hb, Bool.false_eq_true, if_false] at hh1 ⊢
  (refine RetX.of_bodyW Tryz.func85 rfl (by simp) fun Γ hn hpan => ?_); simp only [entry, ziC, ziN, maC, maN, oA, Tryz.ntmps85]
  repeat' (first
  | ((first | refine zae ?_ | refine zaj ?_ | refine zah ?_ | refine zai ?_ | fail); simp [hne, del])
  | ((first | refine zaq ?_ | refine zap ?_ | fail); simp only [zao])
  | (refine CallP.fE (h0) (by first | rfl | fail) (by first | simp [hne, del] <;> rfl | fail) ?_; (try simp [hne, del]))
  | (refine CallP.ok1 (hh1 _ (by first | omega | simp <;> omega | fail)) (by first | (simp [hne, del, zaa, getK, zab, zac]; done) | fail) (by rfl) (by rfl) ?_; (try simp [hne, del]))
  | fail)
  refine EndW.norm ?_;simp [St.norm, zbj, zbX, zci, zcj, hne, nAA]
  (refine EndW.here ?_; (first | (refine EndOK.fin (.inr rfl) ?_) | (refine EndOK.fin (.inl rfl) ?_)); simp [zaG, zaf, Tryz.results85, hne, hi]; refine FinOK.cut [(i, pOb l p)] (nx) (by simp [zaa, getK, zab, zac, Ob.under, D.under, zad, zag, hne, hi] <;> omega) (by simp [D.under]) (by simp [hn]) ?_; try simp)
  exact PPost.zcm rfl (by simp [nothingE, Exp.row]) rfl
 | true =>
  have hp2 := zbd hl hb;simp only [hb, if_true] at hh1 ⊢;have hn1 := fun nx' (h : nx <= nx') => zgy l (p + 1) i nx' (by omega) hp2 hl hl2;cases hr0 : zdz l (p + 1) with
  | stop pos e =>
   simp only [hr0] at hn1
   (refine RetX.of_bodyW Tryz.func85 rfl (by simp) fun Γ hn hpan => ?_); simp only [entry, ziC, ziN, maC, maN, oA, Tryz.ntmps85]
   repeat' (first
  | ((first | refine zae ?_ | refine zaj ?_ | refine zah ?_ | refine zai ?_ | fail); simp [hne, del])
  | (refine CallP.ok1 (hh1 _ (by first | omega | simp <;> omega | fail)) (by first | (simp [hne, del, zaa, getK, zab, zac]; done) | fail) (by rfl) (by rfl) ?_; (try simp [hne, del]))
  | (refine CallP.zei (hn1 _ (by first | omega | simp <;> omega | fail)) (by first | (simp [hne, del, zaa, getK, zab, zac]; done) | fail) (by rfl) (by first | assumption | (simp; done) | fail) (by rfl) (by simp) ?_; rintro ob' ⟨q', rfl⟩; refine ⟨_, Wk.refl _, ?_⟩)
  | fail)
   (refine hpan _ _ ⟨{ n := _, env := [], obs := [(i, pOb l q')], next := nx }, (Wk.cut rfl (by simp [hn]) (by simp [wkO, zaa, getK, zab, zac, Ob.under, D.under, zad, zag, hi, hne, zab, zac, zaa, getK]) (by simp [wkU, zan, zaa, getK, D.under, hi, hne, zab, zac, zaa, getK]) (by simp [wkE, zan, zaa, getK, hi, hne, zab, zac, zaa, getK])), by simp [hn], ?_⟩; try simp)
   exact PPost.zay (by simp [PR.bind, *])
  | ok n q0 =>
   have hn1 := fun nx' h => zde (hn1 nx' h) hr0
   (refine RetX.of_bodyW Tryz.func85 rfl (by simp) fun Γ hn hpan => ?_); simp only [entry, ziC, ziN, maC, maN, oA, Tryz.ntmps85]
   repeat' (first
  | ((first | refine zae ?_ | refine zaj ?_ | refine zah ?_ | refine zai ?_ | fail); simp [hne, del])
  | (refine zaq ?_; simp only [zao])
  | (refine CallP.ok1 (hh1 _ (by first | omega | simp <;> omega | fail)) (by first | (simp [hne, del, zaa, getK, zab, zac]; done) | fail) (by rfl) (by rfl) ?_; (try simp [hne, del]))
  | (refine CallP.ok1 (hn1 _ (by first | omega | simp <;> omega | fail)) (by first | (simp [hne, del, zaa, getK, zab, zac]; done) | fail) (by rfl) (by rfl) ?_; (try simp [hne, del]))
  | fail)
   refine EndW.norm ?_;simp [St.norm, zbj, zbX, zci, zcj, hne, nAA]
   (refine EndW.here ?_; (first | (refine EndOK.fin (.inr rfl) ?_) | (refine EndOK.fin (.inl rfl) ?_)); simp [zaG, zaf, Tryz.results85, hne, hi]; refine FinOK.cut [(i, pOb l q0)] (nx) (by simp [zaa, getK, zab, zac, Ob.under, D.under, zad, zag, hne, hi] <;> omega) (by simp [D.under]) (by simp [hn]) ?_; try simp)
   exact PPost.zcm rfl (by simp [Exp.row_eq]) rfl
theorem zeJ {l : List Tok} (hl : TokOK l) {p q : Nat} {w : List UInt8} {e : Exp} (h : zcw l p w = .ok e q) (hp : p < l.length) : p <= q /\ q < l.length := by
 unfold zcw at h;split at h
 ·rename_i hb;have := zgB hl h (zbd hl hb);exact ⟨by omega, this.2⟩
 ·cases h; exact ⟨by omega, hp⟩
abbrev zb0 : Ob := .box [.fnc (.func 52) [.ptr 1 0]]
abbrev zc7 (j : Nat) (l : W8) : Ob := .box [.ptr 1 0, .vec j l.length]
abbrev zc6 (l : W8) : Ob := .vec u8T 1 (zcp l)
def zrl (j nx : Nat) (T : W8) (d : D) (o : List (Nat × Ob)) (n : Nat) : Prop := d = .tup [] /\ ∃ j', 3 <= j' /\ j' < n /\ nx <= n /\ o = [(2, zb0), (1, zc7 j' T), (j', zc6 T)]
def zbq (w : W8) (n : Int) (ws : List W8) : W8 := if n = 0 then [] else zbz (w :: Lib.itoa n :: ws)
theorem zg2 (l : W8) (ws : List W8) (j nx : Nat) (hj3 : 3 <= j) (hj : j < nx) (hlen : l.length + (zbz ws).length <= 140737488355328) (hN : ws.length <= 140737488355328) :
  RetX Tryz.prog 52 [.u (.sl (ws.map fun w => [.str w])), .ptr 1 0] [(1, zc7 j l), (j, zc6 l)] nx
   (fun r o n => r = .val (.tup []) /\ o = [(1, zc7 nx (l ++ zbz ws)), (nx, zc6 (l ++ zbz ws))] /\ n = nx + 1) := znL l ws 1 j nx (by omega) hj (by omega) hlen hN
theorem zcZ (l w : W8) (n : Int) (ws : List W8) (j nx : Nat) (hj3 : 3 <= j) (hj : j < nx) (h0 : 0 <= n) (h1 : n <= 1099511627776) (hlen : l.length + (zbq w n ws).length <= 100000000000000) (hN : ws.length <= 1000) :
  RetX Tryz.prog 55 [.u (.str w), .u (.int .i64 n), .u (.sl (ws.map fun w => [.str w])), .ptr 2 0] [(2, zb0), (1, zc7 j l), (j, zc6 l)] nx
   (fun r o N => ∃ d, r = .val d /\ zrl j nx (l ++ zbq w n ws) d o N) := by
 have hit := zlx n (by omega) (by omega);have h2 : 2 < nx := by omega
 have h2j : ¬ (2 : Nat) = j := by omega
 have h1j : ¬ (1 : Nat) = j := by omega
 have hj2 : ¬ j = 2 := by omega
 have hj1 : ¬ j = 1 := by omega
 have hx0 : ¬ nx = 0 := by omega
 have hx1 : ¬ nx = 1 := by omega
 have hx2 : ¬ nx = 2 := by omega
 have hjx : ¬ j = nx + 1 := by omega
 have hne := zaB h2;have hne1 := zaB (show 1 < nx by omega);have hnej := zaB hj;by_cases hz : n = 0
 ·rw [zbq, if_pos hz, List.append_nil]
  (refine RetX.of_bodyW Tryz.func55 rfl (by simp) fun Γ hn hpan => ?_); simp only [entry, ziC, ziN, maC, maN, oA, Tryz.ntmps55]
  repeat' (first
  | ((first | refine zae ?_ | refine zaj ?_ | refine zah ?_ | refine zai ?_ | fail); simp [hz])
  | (refine zap ?_; simp only [zao])
  | fail)
  (refine EndW.here ?_; (first | (refine EndOK.fin (.inr rfl) ?_) | (refine EndOK.fin (.inl rfl) ?_)); simp [zaG, zaf, Tryz.results55, hne, hne1, hnej, h2j, h1j, hj2, hj1, hj, h2]; refine FinOK.cut [(2, zb0), (1, zc7 j l), (j, zc6 l)] (nx) (by simp [zaa, getK, zab, zac, Ob.under, D.under, zad, zag, hne, hne1, hnej, h2j, h1j, hj2, hj1, hj, h2] <;> omega) (by simp [D.under]) (by simp [hn]) ?_; try simp)
  exact ⟨rfl, j, hj3, hj, Nat.le_refl _, rfl⟩
 ·rw [zbq, if_neg hz] at hlen ⊢;have hln := fun nx' (h : nx <= nx') => zg2 l (w :: Lib.itoa n :: ws) j nx' hj3 (by omega) (by omega) (by simp; omega);simp only [List.map_cons] at hln
  (refine RetX.of_bodyW Tryz.func55 rfl (by simp) fun Γ hn hpan => ?_); simp only [entry, ziC, ziN, maC, maN, oA, Tryz.ntmps55]
  have hA : 2 + ws.length <= ws.length + 1 + 1 := by omega
  have hB : List.take (2 + ws.length) ([U.str w] :: [U.str (Lib.itoa n)] :: List.map (fun w => [U.str w]) ws) = [U.str w] :: [U.str (Lib.itoa n)] :: List.map (fun w => [U.str w]) ws := List.take_of_length_le (by simp; omega)
  skip
  repeat' (first
  | (refine zdj ?_; simp [hz, hne, hne1, hnej, h2j, h1j, hj2, hj1, hx0, hx1, hx2, hjx, hA, hB, zal, frzS, zaF])
  | (refine zd9 rfl rfl (by decide +kernel) (by first | (simp [hn]; done) | (simp [hn]; omega) | fail) fun C k hC hk => ?_; simp [hz, hne, hne1, hnej, h2j, h1j, hj2, hj1, hx0, hx1, hx2, hjx, hA, hB, zal, frzS, zaF])
  | ((first | refine zae ?_ | refine zaU rfl ?_ | refine zbJ rfl ?_ | refine zaj ?_ | fail); simp [hz, hne, hne1, hnej, h2j, h1j, hj2, hj1, hx0, hx1, hx2, hjx, hA, hB, zal, frzS, zaF])
  | (refine ⟨by omega, ?_⟩)
  | ((first | refine zah ?_ | refine zai ?_ | fail); simp [hz, hne, hne1, hnej, h2j, h1j, hj2, hj1, hx0, hx1, hx2, hjx, hA, hB, zal, frzS, zaF])
  | (refine za8 (hC _ (zcf [2] (nx) (by simp <;> omega) (by simp <;> omega) (by apply Exists.intro; apply And.intro; (focus (repeat' (first | exact KF.nil | exact KL.nil | apply KF.cons | apply KL.cons 0 rfl | apply KL.cons 1 rfl | apply KL.cons 2 rfl | apply KL.cons 3 rfl | apply KL.cons 4 rfl | apply KL.cons 5 rfl | apply KL.cons 6 rfl | apply KL.cons 7 rfl | apply KL.cons 8 rfl | apply KL.cons 9 rfl))); kernel_rfl))) (hk _ ?_); clear hC hk C k; simp only [zao])
  | (refine CallV.fun_ (hit) (by first | rfl | fail) (by first | simp [hz, hne, hne1, hnej, h2j, h1j, hj2, hj1, hx0, hx1, hx2, hjx, hA, hB, zal, frzS, zaF] <;> rfl | fail) ?_ <;> (try simp [hz, hne, hne1, hnej, h2j, h1j, hj2, hj1, hx0, hx1, hx2, hjx, hA, hB, zal, frzS, zaF]))
  | (refine zas (by first | rfl | fail) ?_; simp [hz, hne, hne1, hnej, h2j, h1j, hj2, hj1, hx0, hx1, hx2, hjx, hA, hB, zal, frzS, zaF, frzN, frz1, zaA, zaz, St.frz, St.frzS, frzS, fv, zaF, zbb, zbe, zaE, zau, zal, del, frz, zbf])
  | (refine CallP.okL (hln _ (by first | omega | simp <;> omega | fail)) (by first | (simp [hz, hne, hne1, hnej, h2j, h1j, hj2, hj1, hx0, hx1, hx2, hjx, hA, hB, zal, frzS, zaF, zaa, getK, zab, zac, zak, zaJ, del]; done) | fail) (by rfl) (by rfl) ?_; (try simp [hz, hne, hne1, hnej, h2j, h1j, hj2, hj1, hx0, hx1, hx2, hjx, hA, hB, zal, frzS, zaF, zcW, del]))
  | fail)
  generalize l ++ zbz (w :: Lib.itoa n :: ws) = T at *
  (refine EndW.here ?_; (first | (refine EndOK.fin (.inr rfl) ?_) | (refine EndOK.fin (.inl rfl) ?_)); simp [zaG, zaf, Tryz.results55, hne, hne1, hnej, h2j, h1j, hj2, hj1, hx0, hx1, hx2, hj, h2]; refine FinOK.cut [(2, zb0), (1, zc7 (nx + 2) T), (nx + 2, zc6 T)] (nx + 3) (by simp [zaa, getK, zab, zac, Ob.under, D.under, zad, zag, hne, hne1, hnej, h2j, h1j, hj2, hj1, hx0, hx1, hx2, hj, h2] <;> omega) (by simp [D.under]) (by simp [hn]) ?_; try simp)
  exact ⟨rfl, nx + 2, by omega, by omega, by omega, rfl⟩
noncomputable def clauseT (w : W8) (e : Exp) : W8 := if eqB e nothingE = true /\ w ≠ [100, 117, 101] then [] else zbz [w, txt e 0]
theorem zjQ (w v : W8) : (zbz [w, v]).length = w.length + v.length + 4 := by
 rw [zbz, zaY, za4]; simp; omega
theorem zc5 (l w : W8) (e : Exp) (j nx : Nat) (hj3 : 3 <= j) (hj : j < nx) (he : zaC 12 e = true) (hlen : l.length + w.length <= 10000000000000) :
  RetX Tryz.prog 57 [.u (.str w), .u (.agg e.row), .ptr 2 0] [(2, zb0), (1, zc7 j l), (j, zc6 l)] nx
   (fun r o N => ∃ d, r = .val d /\ zrl j nx (l ++ clauseT w e) d o N) := by
 have hsm : zdf e nothingE := zb8 e nothingE;unfold zdf at hsm;have hno := zgV;have hsh := zgn 12 (Nat.le_refl _) e he 0;have htl := zct he (Nat.le_refl _) 0;have hln2 := zjQ w (txt e 0);have h2 : 2 < nx := by omega
 have h2j : ¬ (2 : Nat) = j := by omega
 have h1j : ¬ (1 : Nat) = j := by omega
 have hj2 : ¬ j = 2 := by omega
 have hj1 : ¬ j = 1 := by omega
 have hx0 : ¬ nx = 0 := by omega
 have hx1 : ¬ nx = 1 := by omega
 have hx2 : ¬ nx = 2 := by omega
 have hjx : ¬ j = nx + 1 := by omega
 have hjx2 : ¬ j = nx + 2 := by omega
 have hne := zaB h2;have hne1 := zaB (show 1 < nx by omega);have hnej := zaB hj;rw [clauseT];rw [show nothingE.row = [.int .i64 0, .int .i64 0, .int .i64 3, .str [], .sl []] by simp [nothingE, Exp.row]] at hsm hno;rw [Exp.row_eq e] at *;generalize eqB e nothingE = E at *;by_cases hc1 : E = true /\ w ≠ [100, 117, 101]
 ·rw [if_pos hc1, List.append_nil];obtain ⟨rfl, hw⟩ := hc1
  (refine RetX.of_bodyW Tryz.func57 rfl (by simp) fun Γ hn hpan => ?_); simp only [entry, ziC, ziN, maC, maN, oA, Tryz.ntmps57]
  skip
  repeat' (first
  | ((first | refine zae ?_ | refine zaU rfl ?_ | refine zdp rfl ?_ | refine zaj ?_ | refine zah ?_ | refine zai ?_ | fail); simp [hw, hne, hne1, hnej, h2j, h1j, hj2, hj1, hx0, hx1, hx2, hjx])
  | (refine za8 (hC _ (zcf [2] (nx) (by simp <;> omega) (by simp <;> omega) (by apply Exists.intro; apply And.intro; (focus (repeat' (first | exact KF.nil | exact KL.nil | apply KF.cons | apply KL.cons 0 rfl | apply KL.cons 1 rfl | apply KL.cons 2 rfl | apply KL.cons 3 rfl | apply KL.cons 4 rfl | apply KL.cons 5 rfl | apply KL.cons 6 rfl | apply KL.cons 7 rfl | apply KL.cons 8 rfl | apply KL.cons 9 rfl))); kernel_rfl))) (hk _ ?_); clear hC hk C k; simp only [zao])
  | (refine za9 rfl (by kernel_rfl) (by first | (simp [hn]; done) | (simp [hn]; omega) | fail) fun C k hC hk => ?_; simp [hw, hne, hne1, hnej, h2j, h1j, hj2, hj1, hx0, hx1, hx2, hjx])
  | (refine zcr rfl (by simp [hw, hne, hne1, hnej, h2j, h1j, hj2, hj1, hx0, hx1, hx2, hjx]) (fun hc => ?_) (fun hc => ?_) <;> (try simp [hw, hne, hne1, hnej, h2j, h1j, hj2, hj1, hx0, hx1, hx2, hjx] at hc) <;> (try (exfalso; omega)) <;> (try simp [hw, hne, hne1, hnej, h2j, h1j, hj2, hj1, hx0, hx1, hx2, hjx]))
  | (refine zap ?_; simp only [zao])
  | (refine CallV.fun_ (hno) (by first | rfl | fail) (by first | simp [hw, hne, hne1, hnej, h2j, h1j, hj2, hj1, hx0, hx1, hx2, hjx] <;> rfl | fail) ?_ <;> (try simp [hw, hne, hne1, hnej, h2j, h1j, hj2, hj1, hx0, hx1, hx2, hjx]))
  | (refine CallV.fun_ (hsm) (by first | rfl | fail) (by first | simp [hw, hne, hne1, hnej, h2j, h1j, hj2, hj1, hx0, hx1, hx2, hjx] <;> rfl | fail) ?_ <;> (try simp [hw, hne, hne1, hnej, h2j, h1j, hj2, hj1, hx0, hx1, hx2, hjx]))
  | fail)
  (refine EndW.here ?_; (first | (refine EndOK.fin (.inr rfl) ?_) | (refine EndOK.fin (.inl rfl) ?_)); simp [zaG, zaf, Tryz.results57, hne, hne1, hnej, h2j, h1j, hj2, hj1, hx0, hx1, hx2, hj, h2]; refine FinOK.cut [(2, zb0), (1, zc7 j l), (j, zc6 l)] (nx) (by simp [zaa, getK, zab, zac, Ob.under, D.under, zad, zag, hne, hne1, hnej, h2j, h1j, hj2, hj1, hx0, hx1, hx2, hj, h2] <;> omega) (by simp [D.under]) (by simp [hn]) ?_; try simp)
  exact ⟨rfl, j, hj3, hj, Nat.le_refl _, rfl⟩
 ·rw [if_neg hc1];have hln := fun nx' (h : nx <= nx') => zg2 l [w, txt e 0] j nx' hj3 (by omega) (by omega) (by simp);simp only [List.map_cons, List.map_nil] at hln;generalize txt e 0 = T0 at *;generalize l ++ zbz [w, T0] = T at *;cases E with
  | false =>
   (refine RetX.of_bodyW Tryz.func57 rfl (by simp) fun Γ hn hpan => ?_); simp only [entry, ziC, ziN, maC, maN, oA, Tryz.ntmps57]
   skip
   repeat' (first
  | (refine zdj ?_; simp [hne, hne1, hnej, h2j, h1j, hj2, hj1, hx0, hx1, hx2, hjx, hjx2, zal, frzS, zaF])
  | (refine zd9 rfl rfl (by decide +kernel) (by first | (simp [hn]; done) | (simp [hn]; omega) | fail) fun C k hC hk => ?_; simp [hne, hne1, hnej, h2j, h1j, hj2, hj1, hx0, hx1, hx2, hjx, hjx2, zal, frzS, zaF])
  | ((first | refine zae ?_ | refine zaU rfl ?_ | refine zbJ rfl ?_ | refine zaj ?_ | refine zah ?_ | refine zai ?_ | fail); simp [hne, hne1, hnej, h2j, h1j, hj2, hj1, hx0, hx1, hx2, hjx, hjx2, zal, frzS, zaF])
  | (refine za8 (hC _ (zcf [2] (nx) (by simp <;> omega) (by simp <;> omega) (by apply Exists.intro; apply And.intro; (focus (repeat' (first | exact KF.nil | exact KL.nil | apply KF.cons | apply KL.cons 0 rfl | apply KL.cons 1 rfl | apply KL.cons 2 rfl | apply KL.cons 3 rfl | apply KL.cons 4 rfl | apply KL.cons 5 rfl | apply KL.cons 6 rfl | apply KL.cons 7 rfl | apply KL.cons 8 rfl | apply KL.cons 9 rfl))); kernel_rfl))) (hk _ ?_); clear hC hk C k; simp only [zao])
  | (refine za9 rfl (by kernel_rfl) (by first | (simp [hn]; done) | (simp [hn]; omega) | fail) fun C k hC hk => ?_; simp [hne, hne1, hnej, h2j, h1j, hj2, hj1, hx0, hx1, hx2, hjx, hjx2, zal, frzS, zaF])
  | (refine zcr rfl (by simp [hne, hne1, hnej, h2j, h1j, hj2, hj1, hx0, hx1, hx2, hjx, hjx2, zal, frzS, zaF]) (fun hc => ?_) (fun hc => ?_) <;> (try simp [hne, hne1, hnej, h2j, h1j, hj2, hj1, hx0, hx1, hx2, hjx, hjx2, zal, frzS, zaF] at hc) <;> (try (exfalso; omega)) <;> (try simp [hne, hne1, hnej, h2j, h1j, hj2, hj1, hx0, hx1, hx2, hjx, hjx2, zal, frzS, zaF]))
  | (refine CallV.fun_ (hno) (by first | rfl | fail) (by first | simp [hne, hne1, hnej, h2j, h1j, hj2, hj1, hx0, hx1, hx2, hjx, hjx2, zal, frzS, zaF] <;> rfl | fail) ?_ <;> (try simp [hne, hne1, hnej, h2j, h1j, hj2, hj1, hx0, hx1, hx2, hjx, hjx2, zal, frzS, zaF]))
  | (refine CallV.fun_ (hsm) (by first | rfl | fail) (by first | simp [hne, hne1, hnej, h2j, h1j, hj2, hj1, hx0, hx1, hx2, hjx, hjx2, zal, frzS, zaF] <;> rfl | fail) ?_ <;> (try simp [hne, hne1, hnej, h2j, h1j, hj2, hj1, hx0, hx1, hx2, hjx, hjx2, zal, frzS, zaF]))
  | (refine CallV.fun_ (hsh) (by first | rfl | fail) (by first | simp [hne, hne1, hnej, h2j, h1j, hj2, hj1, hx0, hx1, hx2, hjx, hjx2, zal, frzS, zaF] <;> rfl | fail) ?_ <;> (try simp [hne, hne1, hnej, h2j, h1j, hj2, hj1, hx0, hx1, hx2, hjx, hjx2, zal, frzS, zaF]))
  | (refine zas (by first | rfl | fail) ?_; simp [hne, hne1, hnej, h2j, h1j, hj2, hj1, hx0, hx1, hx2, hjx, hjx2, zal, frzS, zaF, frzN, frz1, zaA, zaz, St.frz, St.frzS, frzS, fv, zaF, zbb, zbe, zaE, zau, zal, del, frz, zbf])
  | (refine CallP.okL (hln _ (by first | omega | simp <;> omega | fail)) (by first | (simp [hne, hne1, hnej, h2j, h1j, hj2, hj1, hx0, hx1, hx2, hjx, hjx2, zal, frzS, zaF, zaa, getK, zab, zac, zak, zaJ, del]; done) | fail) (by rfl) (by rfl) ?_; (try simp [hne, hne1, hnej, h2j, h1j, hj2, hj1, hx0, hx1, hx2, hjx, hjx2, zal, frzS, zaF, zcW, del]))
  | fail)
   (refine EndW.here ?_; (first | (refine EndOK.fin (.inr rfl) ?_) | (refine EndOK.fin (.inl rfl) ?_)); simp [zaG, zaf, Tryz.results57, hne, hne1, hnej, h2j, h1j, hj2, hj1, hx0, hx1, hx2, hj, h2]; refine FinOK.cut [(2, zb0), (1, zc7 (nx + 2) T), (nx + 2, zc6 T)] (nx + 3) (by simp [zaa, getK, zab, zac, Ob.under, D.under, zad, zag, hne, hne1, hnej, h2j, h1j, hj2, hj1, hx0, hx1, hx2, hj, h2] <;> omega) (by simp [D.under]) (by simp [hn]) ?_; try simp)
   exact ⟨rfl, nx + 2, by omega, by omega, by omega, rfl⟩
  | true =>
   obtain rfl : w = [100, 117, 101] := by
    by_cases hw : w = [100, 117, 101]
    ·exact hw
    ·exact absurd ⟨rfl, hw⟩ hc1
   (refine RetX.of_bodyW Tryz.func57 rfl (by simp) fun Γ hn hpan => ?_); simp only [entry, ziC, ziN, maC, maN, oA, Tryz.ntmps57]
   skip
   repeat' (first
  | (refine zdj ?_; simp [hne, hne1, hnej, h2j, h1j, hj2, hj1, hx0, hx1, hx2, hjx, hjx2, zal, frzS, zaF])
  | (refine zd9 rfl rfl (by decide +kernel) (by first | (simp [hn]; done) | (simp [hn]; omega) | fail) fun C k hC hk => ?_; simp [hne, hne1, hnej, h2j, h1j, hj2, hj1, hx0, hx1, hx2, hjx, hjx2, zal, frzS, zaF])
  | ((first | refine zae ?_ | refine zaU rfl ?_ | refine zbJ rfl ?_ | refine zdp rfl ?_ | refine zaj ?_ | refine zah ?_ | refine zai ?_ | fail); simp [hne, hne1, hnej, h2j, h1j, hj2, hj1, hx0, hx1, hx2, hjx, hjx2, zal, frzS, zaF])
  | (refine za8 (hC _ (zcf [2] (nx) (by simp <;> omega) (by simp <;> omega) (by apply Exists.intro; apply And.intro; (focus (repeat' (first | exact KF.nil | exact KL.nil | apply KF.cons | apply KL.cons 0 rfl | apply KL.cons 1 rfl | apply KL.cons 2 rfl | apply KL.cons 3 rfl | apply KL.cons 4 rfl | apply KL.cons 5 rfl | apply KL.cons 6 rfl | apply KL.cons 7 rfl | apply KL.cons 8 rfl | apply KL.cons 9 rfl))); kernel_rfl))) (hk _ ?_); clear hC hk C k; simp only [zao])
  | (refine za9 rfl (by kernel_rfl) (by first | (simp [hn]; done) | (simp [hn]; omega) | fail) fun C k hC hk => ?_; simp [hne, hne1, hnej, h2j, h1j, hj2, hj1, hx0, hx1, hx2, hjx, hjx2, zal, frzS, zaF])
  | (refine zcr rfl (by simp [hne, hne1, hnej, h2j, h1j, hj2, hj1, hx0, hx1, hx2, hjx, hjx2, zal, frzS, zaF]) (fun hc => ?_) (fun hc => ?_) <;> (try simp [hne, hne1, hnej, h2j, h1j, hj2, hj1, hx0, hx1, hx2, hjx, hjx2, zal, frzS, zaF] at hc) <;> (try (exfalso; omega)) <;> (try simp [hne, hne1, hnej, h2j, h1j, hj2, hj1, hx0, hx1, hx2, hjx, hjx2, zal, frzS, zaF]))
  | (refine CallV.fun_ (hno) (by first | rfl | fail) (by first | simp [hne, hne1, hnej, h2j, h1j, hj2, hj1, hx0, hx1, hx2, hjx, hjx2, zal, frzS, zaF] <;> rfl | fail) ?_ <;> (try simp [hne, hne1, hnej, h2j, h1j, hj2, hj1, hx0, hx1, hx2, hjx, hjx2, zal, frzS, zaF]))
  | (refine CallV.fun_ (hsm) (by first | rfl | fail) (by first | simp [hne, hne1, hnej, h2j, h1j, hj2, hj1, hx0, hx1, hx2, hjx, hjx2, zal, frzS, zaF] <;> rfl | fail) ?_ <;> (try simp [hne, hne1, hnej, h2j, h1j, hj2, hj1, hx0, hx1, hx2, hjx, hjx2, zal, frzS, zaF]))
  | (refine CallV.fun_ (hsh) (by first | rfl | fail) (by first | simp [hne, hne1, hnej, h2j, h1j, hj2, hj1, hx0, hx1, hx2, hjx, hjx2, zal, frzS, zaF] <;> rfl | fail) ?_ <;> (try simp [hne, hne1, hnej, h2j, h1j, hj2, hj1, hx0, hx1, hx2, hjx, hjx2, zal, frzS, zaF]))
  | (refine zas (by first | rfl | fail) ?_; simp [hne, hne1, hnej, h2j, h1j, hj2, hj1, hx0, hx1, hx2, hjx, hjx2, zal, frzS, zaF, frzN, frz1, zaA, zaz, St.frz, St.frzS, frzS, fv, zaF, zbb, zbe, zaE, zau, zal, del, frz, zbf])
  | (refine CallP.okL (hln _ (by first | omega | simp <;> omega | fail)) (by first | (simp [hne, hne1, hnej, h2j, h1j, hj2, hj1, hx0, hx1, hx2, hjx, hjx2, zal, frzS, zaF, zaa, getK, zab, zac, zak, zaJ, del]; done) | fail) (by rfl) (by rfl) ?_; (try simp [hne, hne1, hnej, h2j, h1j, hj2, hj1, hx0, hx1, hx2, hjx, hjx2, zal, frzS, zaF, zcW, del]))
  | fail)
   (refine EndW.here ?_; (first | (refine EndOK.fin (.inr rfl) ?_) | (refine EndOK.fin (.inl rfl) ?_)); simp [zaG, zaf, Tryz.results57, hne, hne1, hnej, h2j, h1j, hj2, hj1, hx0, hx1, hx2, hj, h2]; refine FinOK.cut [(2, zb0), (1, zc7 (nx + 2) T), (nx + 2, zc6 T)] (nx + 3) (by simp [zaa, getK, zab, zac, Ob.under, D.under, zad, zag, hne, hne1, hnej, h2j, h1j, hj2, hj1, hx0, hx1, hx2, hj, h2] <;> omega) (by simp [D.under]) (by simp [hn]) ?_; try simp)
   exact ⟨rfl, nx + 2, by omega, by omega, by omega, rfl⟩
end Go.Proofs.YthnemhfamhnfjaaGreatDoor
