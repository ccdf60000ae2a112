/- Texts joined by a program of mine: Ep Er Es Et Za Zk Zb Zl Zc Zd Ze. -/
import Derived.Test.YthnemhfamhnfjaaGreatDoorK5
set_option linter.all false
set_option maxRecDepth 100000
set_option maxHeartbeats 8000000
namespace Go.Proofs.YthnemhfamhnfjaaGreatDoor
open Go Go.VL
attribute [local simp] HS zcR zb0 evPure opd uOf zaH St.put St.at getK binD binI binS binB nilD aggD zgp zhi lookD lookR zcm Go.VL.nextD zcq zhv zhu zfX zcs mkV zdb zbj zbr mapEff zd1 zfM Key.kk shiftI arith unD convD zdH loadD cellsAt fieldAddrD fieldD indexAddrD indexD sliceD cutD lenD minmaxD nilCheckD buildD fillD zbH zcW zes setAll zcE zeJ zch zgC zcd St.add zaM zbB rowsOf zdw zcA zak zac zaa zba zcz zaR entry zbo zbq valD zb5 zcu zgh zc8 zda zbO zbG zau za2 zbm delAll effD St.effS zcM za6 zaY zcN za7 za0 zbY zaZ zaS zbZ zcH zbv zbV zbi zbT zbU zaJ mkD zbI zbs zbF zau zcf D.ids Op.operands Call.operands zbx makeIfD makeFuncD typeAssertD zhh zds zdt zgK zcn IntKind.bits zcG List.take_of_length_le List.range_succ
attribute [local irreducible] V G H HD HD2 HD4 zkk RetX zao Eff CallP CallV EndOK Fun Ret FinOK LoopI LoopW EndW
theorem znj (s : List UInt8) (l : List Tok) (nx : Nat) (h : ziZ s = .ok l) :
  RetX Tryz.prog 34 [.u (.str s)] [] nx (fun r o n => r = .val (.tup [.ptr nx 0, .u (.int .i64 0), .u (.int .i64 0)]) ∧ o = [(nx, pOb l 0)] ∧ n = nx + 1) := by
 have h1 := zny s
 rw [h] at h1
 simp only [zhV] at h1
 (refine RetX.of_bodyW Tryz.func34 rfl (by simp) fun Γ hn hpan => ?_); simp only [entry, List.zipIdx_cons, List.zipIdx_nil, List.map_cons, List.map_nil, Nat.zero_add, Tryz.ntmps34]
 repeat' (first
  | (refine zaf ?_; simp)
  | (refine zal ?_; simp)
  | (refine zah ?_; simp)
  | (refine zar ?_; simp only [zao])
  | (refine CallP.fE (h1) (by first | rfl | fail) (by first | (simp; done) | (simp; rfl) | fail) ?_; (try simp))
  | fail)
 (refine EndW.here ?_; (first | (refine EndOK.fin (.inr rfl) ?_) | (refine EndOK.fin (.inl rfl) ?_)); simp [zaL, zag, Tryz.results34]; refine FinOK.here (by simp) ?_; try simp)
theorem zk5 (s : List UInt8) (p : Nat) (e : Int) (nx : Nat) (h : ziZ s = .error (p, e)) :
  RetX Tryz.prog 34 [.u (.str s)] [] nx (fun r o n => r = .val (.tup [.ptr nx 0, .u (.int .i64 p), .u (.int .i64 e)]) ∧ o = [(nx, pOb [] 0)] ∧ n = nx + 1) := by
 have h1 := zny s
 rw [h] at h1
 simp only [zhV] at h1
 (refine RetX.of_bodyW Tryz.func34 rfl (by simp) fun Γ hn hpan => ?_); simp only [entry, List.zipIdx_cons, List.zipIdx_nil, List.map_cons, List.map_nil, Nat.zero_add, Tryz.ntmps34]
 repeat' (first
  | (refine zaf ?_; simp)
  | (refine zal ?_; simp)
  | (refine zah ?_; simp)
  | (refine zar ?_; simp only [zao])
  | (refine CallP.fE (h1) (by first | rfl | fail) (by first | (simp; done) | (simp; rfl) | fail) ?_; (try simp))
  | fail)
 (refine EndW.here ?_; (first | (refine EndOK.fin (.inr rfl) ?_) | (refine EndOK.fin (.inl rfl) ?_)); simp [zaL, zag, Tryz.results34]; refine FinOK.here (by simp) ?_; try simp)
theorem zhn (i j nx : Nat) (hi : i < nx) (hj : j < nx) (hij : i ≠ j) (p e : Int) :
  RetX Tryz.prog 36 [.u (.oth .nilIface), .ptr i 0, .ptr j 0] [(i, .box [.u (.int .i64 p)]), (j, .box [.u (.int .i64 e)])] nx
   (fun r o n => r = .val (.u (.bool false)) ∧ o = [(i, .box [.u (.int .i64 p)]), (j, .box [.u (.int .i64 e)])] ∧ n = nx) := by
 have hne := zaB hi
 have hne2 := zaB hj
 (refine RetX.of_bodyW Tryz.func36 rfl (by simp) fun Γ hn hpan => ?_); simp only [entry, List.zipIdx_cons, List.zipIdx_nil, List.map_cons, List.map_nil, Nat.zero_add, Tryz.ntmps36]
 repeat' (first
  | (refine zaf ?_; simp [hne, hne2, hij, Ne.symm hij])
  | (refine zal ?_; simp [hne, hne2, hij, Ne.symm hij])
  | (refine zah ?_; simp [hne, hne2, hij, Ne.symm hij])
  | fail)
 refine ⟨[.int .i64 0, .int .i64 0], rfl, ?_⟩
 repeat' (first
  | (refine zaf ?_; simp [hne, hne2, hij, Ne.symm hij])
  | (refine zal ?_; simp [hne, hne2, hij, Ne.symm hij])
  | (refine zah ?_; simp [hne, hne2, hij, Ne.symm hij])
  | (refine zai ?_; simp [hne, hne2, hij, Ne.symm hij])
  | (refine zar ?_; simp only [zao])
  | (refine zap ?_; simp only [zao])
  | fail)
 (refine EndW.here ?_; (first | (refine EndOK.fin (.inr rfl) ?_) | (refine EndOK.fin (.inl rfl) ?_)); simp [zaL, zag, Tryz.results36, hne, hne2, hij, Ne.symm hij, hi, hj]; refine FinOK.cut [(i, .box [.u (.int .i64 p)]), (j, .box [.u (.int .i64 e)])] (nx) (by simp [zaa, getK, zab, zac, Ob.under, D.under, zad, zae, hne, hne2, hij, Ne.symm hij, hi, hj] <;> omega) (by simp [D.under]) (by simp [hn]) ?_; try simp)
theorem zhm (i j nx : Nat) (hi : i < nx) (hj : j < nx) (hij : i ≠ j) (p e pos err : Int) :
  RetX Tryz.prog 36 [.u (.oth (.iface 105 (.agg #[.int .i64 pos, .int .i64 err]))), .ptr i 0, .ptr j 0] [(i, .box [.u (.int .i64 p)]), (j, .box [.u (.int .i64 e)])] nx
   (fun r o n => r = .val (.u (.bool true)) ∧ o = [(i, .box [.u (.int .i64 pos)]), (j, .box [.u (.int .i64 err)])] ∧ n = nx) := by
 have hne := zaB hi
 have hne2 := zaB hj
 (refine RetX.of_bodyW Tryz.func36 rfl (by simp) fun Γ hn hpan => ?_); simp only [entry, List.zipIdx_cons, List.zipIdx_nil, List.map_cons, List.map_nil, Nat.zero_add, Tryz.ntmps36]
 repeat' (first
  | (refine zaf ?_; simp [hne, hne2, hij, Ne.symm hij])
  | (refine zbt rfl ?_; simp [hne, hne2, hij, Ne.symm hij])
  | (refine zcc rfl ?_; simp [hne, hne2, hij, Ne.symm hij])
  | (refine zal ?_; simp [hne, hne2, hij, Ne.symm hij])
  | (refine zah ?_; simp [hne, hne2, hij, Ne.symm hij])
  | (refine zai ?_; simp [hne, hne2, hij, Ne.symm hij])
  | (refine zbQ (hC _ (zcr [i, j] nx (by simp <;> omega) (by simp <;> omega) (by apply Exists.intro; apply And.intro; (focus (repeat' (first | exact KF.nil | exact KL.nil | apply KF.cons | apply KL.cons 0 rfl | apply KL.cons 1 rfl | apply KL.cons 2 rfl | apply KL.cons 3 rfl | apply KL.cons 4 rfl | apply KL.cons 5 rfl | apply KL.cons 6 rfl | apply KL.cons 7 rfl | apply KL.cons 8 rfl | apply KL.cons 9 rfl))); kernel_rfl))) (hk _ ?_); clear hC hk C k; simp only [zao])
  | (refine zb6 rfl (by kernel_rfl) (by first | (simp [hn]; done) | (simp [hn]; omega) | fail) fun C k hC hk => ?_; simp [hne, hne2, hij, Ne.symm hij])
  | (refine zar ?_; simp only [zao])
  | (refine zap ?_; simp only [zao])
  | fail)
 (refine EndW.here ?_; (first | (refine EndOK.fin (.inr rfl) ?_) | (refine EndOK.fin (.inl rfl) ?_)); simp [zaL, zag, Tryz.results36, hne, hne2, hij, Ne.symm hij, hi, hj]; refine FinOK.cut [(i, .box [.u (.int .i64 pos)]), (j, .box [.u (.int .i64 err)])] (nx) (by simp [zaa, getK, zab, zac, Ob.under, D.under, zad, zae, hne, hne2, hij, Ne.symm hij, hi, hj] <;> omega) (by simp [D.under]) (by simp [hn]) ?_; try simp)
theorem zoI (i j q nx : Nat) (hi : i < nx) (hj : j < nx) (hq : q < nx) (hij : i ≠ j) (hiq : i ≠ q) (hjq : j ≠ q) (p e : Int) (cells : List U) :
  RetDf Tryz.prog 40 [.ptr i 0, .ptr j 0, .ptr q 0] [(i, .box [.u (.int .i64 p)]), (j, .box [.u (.int .i64 e)]), (q, .box (cells.map .u))] nx .returning
   (fun u o n => settle u = .returning ∧ n = nx ∧ o = [(i, .box [.u (.int .i64 p)]), (j, .box [.u (.int .i64 e)]), (q, .box (cells.map .u))]) := by
 have hne := zaB hi
 have hne2 := zaB hj
 have hne3 := zaB hq
 have hc0 := zhn i j nx hi hj hij p e
 refine RetDf.of_body Tryz.func40 rfl (by simp) (by simp) rfl fun Γ hn => ?_
 simp [entry, zkv, Tryz.ntmps40]
 refine CallP.x2 hc0 (by simp [getK]) (by simp [getK, hij, Ne.symm hij]) hij rfl rfl (by simp) (by simp) (fun d o1 nx' hnx h => ?_) (fun ch o1 nx' hnx h => by cases h.1)
 obtain ⟨h1, rfl, h4⟩ := h
 have h4 := h4.symm
 subst h4
 cases h1
 simp [del, hij, Ne.symm hij, hiq, hjq, Ne.symm hiq, Ne.symm hjq]
 repeat' (first
  | (refine zai ?_; simp [hij, hiq, hjq])
  | (refine zap ?_; simp only [zao])
  | fail)
 (refine ⟨by simp, { n := _, env := [], obs := [(i, .box [.u (.int .i64 p)]), (j, .box [.u (.int .i64 e)]), (q, .box (cells.map .u))], next := nx }, (Wk.cut rfl (by simp [hn]) (by simp [wkO, zaa, getK, zab, zac, Ob.under, D.under, zad, zae, hi, hj, hq, hne, hne2, hne3, hij, hiq, hjq, Ne.symm hij, Ne.symm hiq, Ne.symm hjq]) (by simp [wkU, zan, zaa, getK, D.under, hi, hj, hq, hne, hne2, hne3, hij, hiq, hjq, Ne.symm hij, Ne.symm hiq, Ne.symm hjq]) (by simp [wkE, zan, zaa, getK, hi, hj, hq, hne, hne2, hne3, hij, hiq, hjq, Ne.symm hij, Ne.symm hiq, Ne.symm hjq])), by simp [hn], ?_⟩; try simp)
 all_goals rfl
abbrev zj1 : Ob := .box [.u (.int .i64 0), .u (.int .i64 0), .u (.int .i64 0), .u (.str []), .u .nil]
theorem zip (i j q nx : Nat) (hi : i < nx) (hj : j < nx) (hq : q < nx) (hij : i ≠ j) (hiq : i ≠ q) (hjq : j ≠ q) (p e pos err : Int) (a b c : Int) (t : List UInt8) (g : U) :
  RetDf Tryz.prog 40 [.ptr i 0, .ptr j 0, .ptr q 0] [(i, .box [.u (.int .i64 p)]), (j, .box [.u (.int .i64 e)]), (q, .box [.u (.int .i64 a), .u (.int .i64 b), .u (.int .i64 c), .u (.str t), .u g])] nx (.panicking (chP pos err))
   (fun u o n => settle u = .returning ∧ n = nx ∧ o = [(i, .box [.u (.int .i64 pos)]), (j, .box [.u (.int .i64 err)]), (q, zj1)]) := by
 have hne := zaB hi
 have hne2 := zaB hj
 have hne3 := zaB hq
 have hc0 := zhm i j nx hi hj hij p e pos err
 refine RetDf.of_body Tryz.func40 rfl (by simp) (by simp) rfl fun Γ hn => ?_
 simp [entry, zkv, chP, Tryz.ntmps40]
 refine CallP.x2 hc0 (by simp [getK]) (by simp [getK, hij, Ne.symm hij]) hij rfl rfl (by simp) (by simp) (fun d o1 nx' hnx h => ?_) (fun ch o1 nx' hnx h => by cases h.1)
 obtain ⟨h1, rfl, h4⟩ := h
 have h4 := h4.symm
 subst h4
 cases h1
 simp [del, hij, Ne.symm hij, hiq, hjq, Ne.symm hiq, Ne.symm hjq]
 repeat' (first
  | (refine zaf ?_; simp [hij, hiq, hjq])
  | (refine zal ?_; simp [hij, hiq, hjq])
  | (refine zai ?_; simp [hij, hiq, hjq])
  | (refine zaC ?_; simp [hij, hiq, hjq])
  | fail)
 (refine ⟨by simp, { n := _, env := [], obs := [(i, .box [.u (.int .i64 pos)]), (j, .box [.u (.int .i64 err)]), (q, zj1)], next := nx }, (Wk.cut rfl (by simp [hn]) (by simp [wkO, zaa, getK, zab, zac, Ob.under, D.under, zad, zae, hi, hj, hq, hne, hne2, hne3, hij, hiq, hjq, Ne.symm hij, Ne.symm hiq, Ne.symm hjq]) (by simp [wkU, zan, zaa, getK, D.under, hi, hj, hq, hne, hne2, hne3, hij, hiq, hjq, Ne.symm hij, Ne.symm hiq, Ne.symm hjq]) (by simp [wkE, zan, zaa, getK, hi, hj, hq, hne, hne2, hne3, hij, hiq, hjq, Ne.symm hij, Ne.symm hiq, Ne.symm hjq])), by simp [hn], ?_⟩; try simp)
 all_goals rfl
theorem znA {s : List UInt8} : ∀ (f p : Nat) (l : List Tok), zle f s p = .ok l → s.length < p + f → p ≤ s.length →
  (∀ (i : Nat) (t : Tok), l[i]? = some t → t.kind ≠ 0 → i + 1 < l.length) ∧ l.length ≤ s.length - p + 1 ∧ 0 < l.length
 | 0, p, l, _, h2, h3 => by omega
 | f + 1, p, l, h, h2, h3 => by
  rw [zle] at h
  have hle := zdN zbb (s.drop p)
  rw [List.length_drop] at hle
  split at h
  ·cases h
   refine ⟨fun i t hi hk => ?_, by simp, by simp⟩
   rcases i with _ | i
   ·simp at hi
    subst hi
    exact absurd rfl hk
   ·simp at hi
  ·rename_i c r hd
   have hdl : (s.drop (p + zbM zbb (s.drop p))).length = r.length + 1 := by rw [hd]; rfl
   rw [List.length_drop] at hdl
   split at h
   ·cases h
   ·rename_i t ht
    obtain ⟨ht1, ht2⟩ := zfU ht
    simp only [List.length_cons] at ht2
    split at h
    ·cases h
    ·rename_i l' hl'
     cases h
     obtain ⟨g1, g2, g3⟩ := znA f _ l' hl' (by omega) (by omega)
     refine ⟨fun i t' hi hk => ?_, by simp only [List.length_cons]; omega, by simp⟩
     rcases i with _ | i
     ·simp; exact g3
     ·simp only [List.getElem?_cons_succ] at hi
      have := g1 i t' hi hk
      simp only [List.length_cons]
      omega
theorem znz {s : List UInt8} {l : List Tok} (h : ziZ s = .ok l) : TokOK l ∧ l.length ≤ 2001 ∧ 0 < l.length := by
 unfold ziZ at h
 split at h
 ·cases h
 ·obtain ⟨g1, g2, g3⟩ := znA _ _ _ h (by omega) (by omega)
  exact ⟨⟨g1, by omega⟩, by omega, g3⟩
theorem Exp.zkl {op n u : Int} {s : List UInt8} {args : List Exp} {B : Int} (h : ∀ x ∈ args, x.lev ≤ B) (h0 : 0 ≤ B) : (Exp.mk op n u s args).lev ≤ B + 1 := by
 rw [Exp.zgi]
 simp only [Exp.args]
 have : ∀ (l : List Int) (a : Int), a ≤ B → (∀ x ∈ l, x ≤ B) → l.foldl max a ≤ B := by
  intro l
  induction l with
  | nil => intro a ha _; exact ha
  | cons b l ih => intro a ha hl; exact ih _ (by have := hl b (by simp); omega) fun x hx => hl x (by simp [hx])
 have := this (args.map Exp.lev) 0 h0 (fun x hx => by obtain ⟨y, hy, rfl⟩ := List.mem_map.1 hx; exact h y hy)
 omega
theorem zgW {l : List Tok} : ∀ (f : Nat),
  (∀ p form e q, zc6 l f p form = .ok e q → e.lev ≤ f * f + 1) ∧
  (∀ form e own p e' q, zdr l f form e own p = .ok e' q → e'.lev ≤ max e.lev (f * f + 1) + f) ∧
  (∀ p form e q, za4 l f p form = .ok e q → e.1.lev ≤ f * f + 1) ∧
  (∀ p e q, zaO l f p = .ok e q → e.lev ≤ f * f + 1)
 | 0 => ⟨fun _ _ _ _ h => by simp [zc6] at h, fun _ _ _ _ _ _ h => by simp [zdr] at h, fun _ _ _ _ h => by simp [za4] at h, fun _ _ _ h => by simp [zaO] at h⟩
 | f + 1 => by
  obtain ⟨he, hlo, hpr, hpm⟩ := zgW f
  have hsq : ((f + 1 : Nat) : Int) * ((f + 1 : Nat) : Int) = (f : Int) * f + 2 * f + 1 := by
   rw [show ((f + 1 : Nat) : Int) = (f : Int) + 1 by omega, Int.add_mul, Int.mul_add]; omega
  rw [hsq]
  have h0 : (0 : Int) ≤ (f : Int) * f := Int.mul_nonneg (by omega) (by omega)
  generalize hF : (f : Int) * f = F at *
  refine ⟨fun p form e q h => ?_, fun form e own p e' q h => ?_, fun p form e q h => ?_, fun p e q h => ?_⟩
  ·rw [zc6] at h
   obtain ⟨a, r, h1, h2⟩ := PR.zaI h
   have g1 := hpr _ _ _ _ h1
   have g2 := hlo _ _ _ _ _ _ h2
   omega
  ·rw [zdr] at h
   split at h
   ·cases h; omega
   ·split at h
    ·cases h; omega
    ·obtain ⟨a, r, h1, h2⟩ := PR.zaI h
     have g1 := he _ _ _ _ h1
     have g2 := hlo _ _ _ _ _ _ h2
     rename_i x _ _
     have g3 := Exp.zkl (op := x.op) (n := 0) (u := 0) (s := []) (args := [e, a]) (B := max e.lev (F + 1)) (by
      intro y hy
      simp only [List.mem_cons, List.not_mem_nil, or_false] at hy
      rcases hy with rfl | rfl <;> omega) (by omega)
     omega
  ·rw [za4] at h
   split at h
   ·obtain ⟨a, r, h1, h⟩ := PR.zaI h
    obtain ⟨_, r2, h2, h⟩ := PR.zaI h
    obtain ⟨b, r3, h3, h⟩ := PR.zaI h
    obtain ⟨_, r4, h4, h⟩ := PR.zaI h
    obtain ⟨c, r5, h5, h⟩ := PR.zaI h
    cases h
    have g1 := he _ _ _ _ h1
    have g3 := he _ _ _ _ h3
    have g5 := he _ _ _ _ h5
    have := Exp.zkl (op := 13) (n := 0) (u := 0) (s := []) (args := [a, b, c]) (B := F + 1) (by
     intro y hy
     simp only [List.mem_cons, List.not_mem_nil, or_false] at hy
     rcases hy with rfl | rfl | rfl <;> omega) (by omega)
    simp only
    omega
   ·split at h
    ·obtain ⟨a, r, h1, h⟩ := PR.zaI h
     cases h
     have g1 := he _ _ _ _ h1
     have := Exp.zkl (op := 12) (n := 0) (u := 0) (s := []) (args := [a]) (B := F + 1) (by
      intro y hy
      simp only [List.mem_cons, List.not_mem_nil, or_false] at hy
      rcases hy with rfl; omega) (by omega)
     simp only
     omega
    ·obtain ⟨a, r, h1, h⟩ := PR.zaI h
     cases h
     have g1 := hpm _ _ _ h1
     simp only
     omega
  ·have leaf : ∀ (op n u : Int) (s : List UInt8), (Exp.mk op n u s []).lev ≤ F + 2 * f + 1 + 1 := fun op n u s => by
    have := Exp.zkl (op := op) (n := n) (u := u) (s := s) (args := []) (B := 0) (by simp) (by omega)
    omega
   rw [zaO] at h
   split at h
   ·cases h
   ·split at h
    ·obtain ⟨a, r, h1, h⟩ := PR.zaI h
     cases h; exact leaf ..
    split at h
    ·cases h; exact leaf ..
    split at h
    ·cases h; exact leaf ..
    split at h
    ·obtain ⟨_, r2, h2, h⟩ := PR.zaI h
     obtain ⟨a, r3, h3, h⟩ := PR.zaI h
     obtain ⟨_, r4, h4, h⟩ := PR.zaI h
     obtain ⟨b, r5, h5, h⟩ := PR.zaI h
     obtain ⟨_, r6, h6, h⟩ := PR.zaI h
     have g3 := he _ _ _ _ h3
     have g5 := he _ _ _ _ h5
     have := Exp.zkl (op := if isB l p [109, 97, 120] = true then 7 else 6) (n := 0) (u := 0) (s := []) (args := [a, b]) (B := F + 1) (by
      intro y hy
      simp only [List.mem_cons, List.not_mem_nil, or_false] at hy
      rcases hy with rfl | rfl <;> omega) (by omega)
     cases h
     omega
    split at h
    ·obtain ⟨a, r3, h3, h⟩ := PR.zaI h
     obtain ⟨_, r4, h4, h⟩ := PR.zaI h
     cases h
     have g3 := he _ _ _ _ h3
     omega
    split at h
    ·cases h; exact leaf ..
    ·cases h
def zlj (l : List Tok) (p : Nat) : Int := match l[p]? with | some t => t.kind | none => 0
def zd0 : Exp := .mk 0 0 0 [] []
/-- What ParseExp returns: the expression, the place, the error. -/
def zgb (s : List UInt8) : Exp × Int × Int := match ziZ s with
 | .error (p, e) => (zd0, p, e)
 | .ok l => match zc6 l (4 * l.length + 3) 0 0 with
  | .stop pos e => (zd0, pos, e)
  | .ok y q => if zlj l q ≠ 0 then (zd0, zc5 l q, 12) else if 12 < y.lev then (zd0, zc5 l q, 6) else (y, 0, 0)
theorem znq {c : UInt8} {r : List UInt8} {e : Int} (h : zfV (c :: r) = .error e) : e ≠ 0 := by
 unfold zfV at h
 simp only at h
 split at h
 ·split at h <;> cases h
  omega
 ·split at h
  ·split at h <;> cases h
   omega
  ·split at h <;> cases h
   omega
theorem zld {s : List UInt8} : ∀ (f p : Nat) (q : Nat) (e : Int), zle f s p = .error (q, e) → p ≤ s.length → e ≠ 0 ∧ q ≤ s.length
 | 0, p, q, e, h, _ => by simp [zle] at h
 | f + 1, p, q, e, h, h3 => by
  rw [zle] at h
  have hle := zdN zbb (s.drop p)
  rw [List.length_drop] at hle
  split at h
  ·cases h
  ·rename_i c r hd
   have hdl : (s.drop (p + zbM zbb (s.drop p))).length = r.length + 1 := by rw [hd]; rfl
   rw [List.length_drop] at hdl
   split at h
   ·rename_i ht
    cases h
    exact ⟨znq ht, by omega⟩
   ·rename_i t ht
    obtain ⟨ht1, ht2⟩ := zfU ht
    simp only [List.length_cons] at ht2
    split at h
    ·rename_i x hx
     cases h
     exact zld f _ q e hx (by omega)
    ·cases h
theorem zlc {s : List UInt8} {q : Nat} {e : Int} (h : ziZ s = .error (q, e)) : e ≠ 0 ∧ q ≤ s.length := by
 unfold ziZ at h
 split at h
 ·cases h; exact ⟨by decide, by omega⟩
 ·exact zld _ _ _ _ h (by omega)
def zpN (r : Exp × Int × Int) : D := .tup [.u (.agg r.1.row), .u (.int .i64 r.2.1), .u (.int .i64 r.2.2)]
theorem zjw (s : List UInt8) : RetX Tryz.prog 12 [.u (.str s)] [] 0 (fun r o n => r = .val (zpN (zgb s))) := by
 unfold zgb
 cases hlx : ziZ s with
 | error pe =>
  obtain ⟨p, e⟩ := pe
  have ho := fun nx => zk5 s p e nx hlx
  have he := (zlc hlx).1
  simp only
  (refine RetX.zdC Tryz.func12 rfl (by simp) fun Γ hn hdfr hpan hesc => ?_); simp only [entry, List.zipIdx_cons, List.zipIdx_nil, List.map_cons, List.map_nil, Nat.zero_add, Tryz.ntmps12]
  repeat' (first
  | (refine zaf ?_; simp [he])
  | (refine zbt rfl ?_; simp [he])
  | (refine zcc rfl ?_; simp [he])
  | (refine zal ?_; simp [he])
  | (refine zah ?_; simp [he])
  | (refine zai ?_; simp [he])
  | (refine zbQ (hC _ (by kernel_rfl)) (hk _ ?_); clear hC hk C k; simp only [zao])
  | (refine zb6 rfl (by kernel_rfl) (by first | (simp [hn]; done) | (simp [hn]; omega) | fail) fun C k hC hk => ?_; simp [he])
  | (refine zar ?_; simp only [zao])
  | (refine CallP.okL (ho _) (by first | (simp [he, zaa, getK, zab, zac, zak, zaJ, del]; done) | fail) (by rfl) (by rfl) ?_; (try simp [he, zdf, del]))
  | fail)
  refine EndW.norm ?_
  simp [St.norm, zbl, zb8, zcx, zcy]
  (refine EndW.here ?_; (first | (refine EndOK.fin (.inr rfl) ?_) | (refine EndOK.fin (.inl rfl) ?_)); simp [zaL, zag, Tryz.results12]; refine FinOK.here (by simp) ?_; try simp)
  simp [zpN, Exp.row, zd0]
 | ok l =>
  obtain ⟨hl, hl2, hl0⟩ := znz hlx
  have ho := fun nx => znj s l nx hlx
  have hE := (zju hl (4 * l.length + 3)).1 0 0 3 4 (by omega) hl0 (by omega) (by omega) (by omega)
  simp only
  cases hr : zc6 l (4 * l.length + 3) 0 0 with
  | stop pos e =>
   simp only [hr] at hE ⊢
   (refine RetX.zdC Tryz.func12 rfl (by simp) fun Γ hn hdfr hpan hesc => ?_); simp only [entry, List.zipIdx_cons, List.zipIdx_nil, List.map_cons, List.map_nil, Nat.zero_add, Tryz.ntmps12]
   rw [zdE]
   repeat' (first
  | (refine zaf ?_; simp)
  | (refine zal ?_; simp)
  | (refine zah ?_; simp)
  | (refine zai ?_; simp)
  | (refine zap ?_; simp only [zao])
  | (refine CallP.okL (ho _) (by first | (simp [zaa, getK, zab, zac, zak, zaJ, del]; done) | fail) (by rfl) (by rfl) ?_; (try simp [zdf, del]))
  | fail)
   refine zf8 hesc hdfr rfl (by simp) ?_
   have hn0 := hn
   have hpan0 := hpan
   intro Γ' hn hpan
   simp
   repeat' (first
  | (refine zaf ?_; simp)
  | (refine zah ?_; simp)
  | (refine CallP.zeb (hE) (by first | (simp [zaa, getK, zab, zac]; done) | fail) (by rfl) (by first | assumption | (simp; done) | fail) (by rfl) (by simp) ?_; rintro ob' ⟨q', rfl⟩; refine ⟨_, Wk.refl _, ?_⟩)
  | fail)
   refine hpan _ _ ?_
   refine LeaveD.of [(1, .box [.u (.int .i64 0)]), (2, .box [.u (.int .i64 0)]), (0, zj1)] (by simp [zaa, getK, zab, zac]) (zip 1 2 0 _ (by simp) (by simp) (by simp) (by decide) (by decide) (by decide) 0 0 _ _ 0 0 0 [] .nil) ?_
   simp only [show Γ.base.n0 = 0 from hn0]
   simp [zdf, del]
   refine EndW.norm ?_
   simp [St.norm, zbl, zb8, zcx, zcy]
   (refine EndW.here ?_; (first | (refine EndOK.fin (.inr rfl) ?_) | (refine EndOK.fin (.inl rfl) ?_)); simp [zaL, zag, Tryz.results12]; refine FinOK.here (by simp) ?_; try simp)
   simp [zpN, Exp.row, zd0]
  | ok y q =>
   have hEx := zcY hE hr
   obtain ⟨g0a, g0b⟩ := (zb2 hl _).1 _ _ _ _ hr hl0
   have hlev := (zgW (l := l) _).1 _ _ _ _ hr
   have hlev2 : y.lev ≤ 1000000000 := by
    have h1 : ((4 * l.length + 3 : Nat) : Int) * ((4 * l.length + 3 : Nat) : Int) ≤ 8007 * 8007 := Int.mul_le_mul (by omega) (by omega) (by omega) (by omega)
    omega
   have hlv := zhX (SizeOf.sizeOf y) y (Nat.le_refl _) hlev2
   rw [Exp.row_eq] at hlv
   obtain ⟨t, ht⟩ : ∃ t, l[q]? = some t := ⟨_, List.getElem?_eq_getElem g0b⟩
   have hnx := zbW l q t ht hl.len
   have hka : zlj l q = t.kind := by unfold zlj; rw [ht]
   have hpa : zc5 l q = t.pos := by unfold zc5; rw [ht]
   simp only [hka, hpa]
   by_cases hk : t.kind = 0
   ·have hc1 := fun nx (h : 3 < nx) => zdU l q 12 3 nx h
    rw [if_neg (by simp [hk])]
    by_cases hv : 12 < y.lev
    ·have hc2 := fun nx (h : 3 < nx) => zcS l q t 6 3 nx h ht hl.len
     have hv2 : ¬ y.lev ≤ 12 := by omega
     rw [if_pos hv]
     (refine RetX.zdC Tryz.func12 rfl (by simp) fun Γ hn hdfr hpan hesc => ?_); simp only [entry, List.zipIdx_cons, List.zipIdx_nil, List.map_cons, List.map_nil, Nat.zero_add, Tryz.ntmps12]
     rw [zdE]
     repeat' (first
  | (refine zaf ?_; simp)
  | (refine zal ?_; simp)
  | (refine zah ?_; simp)
  | (refine zai ?_; simp)
  | (refine zap ?_; simp only [zao])
  | (refine CallP.okL (ho _) (by first | (simp [zaa, getK, zab, zac, zak, zaJ, del]; done) | fail) (by rfl) (by rfl) ?_; (try simp [zdf, del]))
  | fail)
     refine zf8 hesc hdfr rfl (by simp) ?_
     have hn0 := hn
     have hpan0 := hpan
     intro Γ' hn hpan
     simp
     repeat' (first
  | (refine zaf ?_; simp [hk, hv, hv2, del])
  | (refine zal ?_; simp [hk, hv, hv2, del])
  | (refine zah ?_; simp [hk, hv, hv2, del])
  | (refine CallP.fE (hlv) (by first | rfl | fail) (by first | (simp [hk, hv, hv2, del]; done) | (simp [hk, hv, hv2, del]; rfl) | fail) ?_; (try simp [hk, hv, hv2, del]))
  | (refine CallP.fE (hnx) (by first | rfl | fail) (by first | (simp [hk, hv, hv2, del]; done) | (simp [hk, hv, hv2, del]; rfl) | fail) ?_; (try simp [hk, hv, hv2, del]))
  | (refine CallP.ok1 (hEx) (by first | (simp [hk, hv, hv2, del, zaa, getK, zab, zac]; done) | fail) (by rfl) (by rfl) ?_; (try simp [hk, hv, hv2, del]))
  | (refine CallP.ok1 (hc1 _ (by simp)) (by first | (simp [hk, hv, hv2, del, zaa, getK, zab, zac]; done) | fail) (by rfl) (by rfl) ?_; (try simp [hk, hv, hv2, del]))
  | (refine CallP.zeb (hc2 _ (by simp)) (by first | (simp [hk, hv, hv2, del, zaa, getK, zab, zac]; done) | fail) (by rfl) (by first | assumption | (simp; done) | fail) (by rfl) (by simp) ?_; rintro ob' ⟨q', rfl⟩; refine ⟨_, Wk.refl _, ?_⟩)
  | fail)
     refine hpan _ _ ?_
     refine LeaveD.of [(1, .box [.u (.int .i64 0)]), (2, .box [.u (.int .i64 0)]), (0, zj1)] (by simp [zaa, getK, zab, zac]) (zip 1 2 0 _ (by simp) (by simp) (by simp) (by decide) (by decide) (by decide) 0 0 _ _ 0 0 0 [] .nil) ?_
     simp only [show Γ.base.n0 = 0 from hn0]
     simp [zdf, del]
     refine EndW.norm ?_
     simp [St.norm, zbl, zb8, zcx, zcy]
     (refine EndW.here ?_; (first | (refine EndOK.fin (.inr rfl) ?_) | (refine EndOK.fin (.inl rfl) ?_)); simp [zaL, zag, Tryz.results12]; refine FinOK.here (by simp) ?_; try simp)
     simp [zpN, Exp.row, zd0]
    ·have hc2 := fun nx (h : 3 < nx) => zdU l q 6 3 nx h
     have hv2 : y.lev ≤ 12 := by omega
     rw [if_neg hv]
     (refine RetX.zdC Tryz.func12 rfl (by simp) fun Γ hn hdfr hpan hesc => ?_); simp only [entry, List.zipIdx_cons, List.zipIdx_nil, List.map_cons, List.map_nil, Nat.zero_add, Tryz.ntmps12]
     rw [zdE]
     repeat' (first
  | (refine zaf ?_; simp)
  | (refine zal ?_; simp)
  | (refine zah ?_; simp)
  | (refine zai ?_; simp)
  | (refine zap ?_; simp only [zao])
  | (refine CallP.okL (ho _) (by first | (simp [zaa, getK, zab, zac, zak, zaJ, del]; done) | fail) (by rfl) (by rfl) ?_; (try simp [zdf, del]))
  | fail)
     refine zf8 hesc hdfr rfl (by simp) ?_
     have hn0 := hn
     have hpan0 := hpan
     intro Γ' hn hpan
     simp
     repeat' (first
  | (refine zaf ?_; simp [hk, hv, hv2, del])
  | (refine zal ?_; simp [hk, hv, hv2, del])
  | (refine zah ?_; simp [hk, hv, hv2, del])
  | (refine zar ?_; simp only [zao])
  | (refine CallP.fE (hlv) (by first | rfl | fail) (by first | (simp [hk, hv, hv2, del]; done) | (simp [hk, hv, hv2, del]; rfl) | fail) ?_; (try simp [hk, hv, hv2, del]))
  | (refine CallP.fE (hnx) (by first | rfl | fail) (by first | (simp [hk, hv, hv2, del]; done) | (simp [hk, hv, hv2, del]; rfl) | fail) ?_; (try simp [hk, hv, hv2, del]))
  | (refine CallP.ok1 (hEx) (by first | (simp [hk, hv, hv2, del, zaa, getK, zab, zac]; done) | fail) (by rfl) (by rfl) ?_; (try simp [hk, hv, hv2, del]))
  | (refine CallP.ok1 (hc1 _ (by simp)) (by first | (simp [hk, hv, hv2, del, zaa, getK, zab, zac]; done) | fail) (by rfl) (by rfl) ?_; (try simp [hk, hv, hv2, del]))
  | (refine CallP.ok1 (hc2 _ (by simp)) (by first | (simp [hk, hv, hv2, del, zaa, getK, zab, zac]; done) | fail) (by rfl) (by rfl) ?_; (try simp [hk, hv, hv2, del]))
  | fail)
     refine ⟨rfl, ?_⟩
     refine LeaveD.of [(1, .box [.u (.int .i64 0)]), (2, .box [.u (.int .i64 0)]), (0, .box ([.int .i64 y.op, .int .i64 y.n, .int .i64 y.unit, .str y.s, .sl (y.args.map Exp.row)].map .u))] (by simp [zaa, getK, zab, zac]) (zoI 1 2 0 _ (by simp) (by simp) (by simp) (by decide) (by decide) (by decide) 0 0 _) ?_
     simp only [show Γ.base.n0 = 0 from hn0]
     simp [zdf, del]
     (refine EndW.here ?_; (first | (refine EndOK.fin (.inr rfl) ?_) | (refine EndOK.fin (.inl rfl) ?_)); simp [zaL, zag, Tryz.results12]; refine FinOK.here (by simp) ?_; try simp)
     simp [zpN, Exp.row_eq]
   ·have hc1 := fun nx (h : 3 < nx) => zcS l q t 12 3 nx h ht hl.len
    rw [if_pos hk]
    (refine RetX.zdC Tryz.func12 rfl (by simp) fun Γ hn hdfr hpan hesc => ?_); simp only [entry, List.zipIdx_cons, List.zipIdx_nil, List.map_cons, List.map_nil, Nat.zero_add, Tryz.ntmps12]
    rw [zdE]
    repeat' (first
  | (refine zaf ?_; simp)
  | (refine zal ?_; simp)
  | (refine zah ?_; simp)
  | (refine zai ?_; simp)
  | (refine zap ?_; simp only [zao])
  | (refine CallP.okL (ho _) (by first | (simp [zaa, getK, zab, zac, zak, zaJ, del]; done) | fail) (by rfl) (by rfl) ?_; (try simp [zdf, del]))
  | fail)
    refine zf8 hesc hdfr rfl (by simp) ?_
    have hn0 := hn
    have hpan0 := hpan
    intro Γ' hn hpan
    simp
    repeat' (first
  | (refine zaf ?_; simp [hk, del])
  | (refine zal ?_; simp [hk, del])
  | (refine zah ?_; simp [hk, del])
  | (refine CallP.fE (hnx) (by first | rfl | fail) (by first | (simp [hk, del]; done) | (simp [hk, del]; rfl) | fail) ?_; (try simp [hk, del]))
  | (refine CallP.ok1 (hEx) (by first | (simp [hk, del, zaa, getK, zab, zac]; done) | fail) (by rfl) (by rfl) ?_; (try simp [hk, del]))
  | (refine CallP.zeb (hc1 _ (by simp)) (by first | (simp [hk, del, zaa, getK, zab, zac]; done) | fail) (by rfl) (by first | assumption | (simp; done) | fail) (by rfl) (by simp) ?_; rintro ob' ⟨q', rfl⟩; refine ⟨_, Wk.refl _, ?_⟩)
  | fail)
    refine hpan _ _ ?_
    refine LeaveD.of [(1, .box [.u (.int .i64 0)]), (2, .box [.u (.int .i64 0)]), (0, zj1)] (by simp [zaa, getK, zab, zac]) (zip 1 2 0 _ (by simp) (by simp) (by simp) (by decide) (by decide) (by decide) 0 0 _ _ 0 0 0 [] .nil) ?_
    simp only [show Γ.base.n0 = 0 from hn0]
    simp [zdf, del]
    refine EndW.norm ?_
    simp [St.norm, zbl, zb8, zcx, zcy]
    (refine EndW.here ?_; (first | (refine EndOK.fin (.inr rfl) ?_) | (refine EndOK.fin (.inl rfl) ?_)); simp [zaL, zag, Tryz.results12]; refine FinOK.here (by simp) ?_; try simp)
    simp [zpN, Exp.row, zd0]
theorem zjx (s : List UInt8) : Fun Tryz.prog 12 [.u (.str s)] (· = .tup [zhF (zgb s).1, .u (.int .i64 (zgb s).2.1), .u (.int .i64 (zgb s).2.2)]) := by
 unfold Fun
 exact (zjw s).ret (fun d o n h => by
  cases h
  refine ⟨by simp [zpN, zas], ?_⟩
  rw [zpN, Exp.row_eq]
  rfl) (fun ch o n h => by cases h)
theorem zl7 (l : List Tok) (p : Nat) (a b : Int) (i nx : Nat) (hi : i < nx) (hp : p < l.length) (hl : TokOK l) :
  RetX Tryz.prog 128 [.ptr i 0, ziD a, ziD b] [(i, pOb l p)] nx (PPost l i nx ziD (zpS l p a b)) := by
 have hne := zaB hi
 obtain ⟨t, ht⟩ : ∃ t, l[p]? = some t := ⟨_, List.getElem?_eq_getElem hp⟩
 have hnx := zbW l p t ht hl.len
 have hll := hl.len
 have hc1 := fun e nx' (h : nx ≤ nx') => zdU l p e i nx' (by omega)
 have hc2 := fun e nx' (h : nx ≤ nx') => zcS l p t e i nx' (by omega) ht hl.len
 rw [zpS, ht]
 by_cases hk2 : t.kind = 2
 ·simp only [hk2, if_true]
  by_cases h1 : a ≤ t.n
  ·by_cases h2 : t.n ≤ b
   ·simp only [h1, h2, and_self, if_true]
    (refine RetX.of_bodyW Tryz.func128 rfl (by simp) fun Γ hn hpan => ?_); simp only [entry, List.zipIdx_cons, List.zipIdx_nil, List.map_cons, List.map_nil, Nat.zero_add, Tryz.ntmps128]
    repeat' (first
  | (refine zaf ?_; simp [hne, hk2, h1, h2, del])
  | (refine zal ?_; simp [hne, hk2, h1, h2, del])
  | (refine ⟨by omega, ?_⟩)
  | (refine zah ?_; simp [hne, hk2, h1, h2, del])
  | (refine zar ?_; simp only [zao])
  | (refine CallP.fE (hnx) (by first | rfl | fail) (by first | (simp [hne, hk2, h1, h2, del]; done) | (simp [hne, hk2, h1, h2, del]; rfl) | fail) ?_; (try simp [hne, hk2, h1, h2, del]))
  | (refine CallP.ok1 (hc1 _ _ (by first | omega | (simp; done) | (simp; omega) | fail)) (by first | (simp [hne, hk2, h1, h2, del, zaa, getK, zab, zac]; done) | fail) (by rfl) (by rfl) ?_; (try simp [hne, hk2, h1, h2, del]))
  | fail)
    (refine EndW.here ?_; (first | (refine EndOK.fin (.inr rfl) ?_) | (refine EndOK.fin (.inl rfl) ?_)); simp [zaL, zag, Tryz.results128, hne, hi]; refine FinOK.cut [(i, pOb l (p + 1))] (nx) (by simp [zaa, getK, zab, zac, Ob.under, D.under, zad, zae, hne, hi] <;> omega) (by simp [D.under]) (by simp [hn]) ?_; try simp)
    exact PPost.zcw rfl rfl rfl
   ·simp only [h1, h2, and_false, if_false]
    (refine RetX.of_bodyW Tryz.func128 rfl (by simp) fun Γ hn hpan => ?_); simp only [entry, List.zipIdx_cons, List.zipIdx_nil, List.map_cons, List.map_nil, Nat.zero_add, Tryz.ntmps128]
    repeat' (first
  | (refine zaf ?_; simp [hne, hk2, h1, h2, del])
  | (refine zal ?_; simp [hne, hk2, h1, h2, del])
  | (refine zah ?_; simp [hne, hk2, h1, h2, del])
  | (refine CallP.fE (hnx) (by first | rfl | fail) (by first | (simp [hne, hk2, h1, h2, del]; done) | (simp [hne, hk2, h1, h2, del]; rfl) | fail) ?_; (try simp [hne, hk2, h1, h2, del]))
  | (refine CallP.ok1 (hc1 _ _ (by first | omega | (simp; done) | (simp; omega) | fail)) (by first | (simp [hne, hk2, h1, h2, del, zaa, getK, zab, zac]; done) | fail) (by rfl) (by rfl) ?_; (try simp [hne, hk2, h1, h2, del]))
  | (refine CallP.zeb (hc2 _ _ (by first | omega | (simp; done) | (simp; omega) | fail)) (by first | (simp [hne, hk2, h1, h2, del, zaa, getK, zab, zac]; done) | fail) (by rfl) (by first | assumption | (simp; done) | fail) (by rfl) (by simp) ?_; rintro ob' ⟨q', rfl⟩; refine ⟨_, Wk.refl _, ?_⟩)
  | fail)
    (refine hpan _ _ ⟨{ n := _, env := [], obs := [(i, pOb l q')], next := nx }, (Wk.cut rfl (by simp [hn]) (by simp [wkO, zaa, getK, zab, zac, Ob.under, D.under, zad, zae, hi, hne, zab, zac, zaa, getK]) (by simp [wkU, zan, zaa, getK, D.under, hi, hne, zab, zac, zaa, getK]) (by simp [wkE, zan, zaa, getK, hi, hne, zab, zac, zaa, getK])), by simp [hn], ?_⟩; try simp)
    exact PPost.zaw (by simp [PR.bind, *])
  ·simp only [h1, false_and, if_false]
   (refine RetX.of_bodyW Tryz.func128 rfl (by simp) fun Γ hn hpan => ?_); simp only [entry, List.zipIdx_cons, List.zipIdx_nil, List.map_cons, List.map_nil, Nat.zero_add, Tryz.ntmps128]
   repeat' (first
  | (refine zaf ?_; simp [hne, hk2, h1, del])
  | (refine zal ?_; simp [hne, hk2, h1, del])
  | (refine zah ?_; simp [hne, hk2, h1, del])
  | (refine CallP.fE (hnx) (by first | rfl | fail) (by first | (simp [hne, hk2, h1, del]; done) | (simp [hne, hk2, h1, del]; rfl) | fail) ?_; (try simp [hne, hk2, h1, del]))
  | (refine CallP.ok1 (hc1 _ _ (by first | omega | (simp; done) | (simp; omega) | fail)) (by first | (simp [hne, hk2, h1, del, zaa, getK, zab, zac]; done) | fail) (by rfl) (by rfl) ?_; (try simp [hne, hk2, h1, del]))
  | (refine CallP.zeb (hc2 _ _ (by first | omega | (simp; done) | (simp; omega) | fail)) (by first | (simp [hne, hk2, h1, del, zaa, getK, zab, zac]; done) | fail) (by rfl) (by first | assumption | (simp; done) | fail) (by rfl) (by simp) ?_; rintro ob' ⟨q', rfl⟩; refine ⟨_, Wk.refl _, ?_⟩)
  | fail)
   (refine hpan _ _ ⟨{ n := _, env := [], obs := [(i, pOb l q')], next := nx }, (Wk.cut rfl (by simp [hn]) (by simp [wkO, zaa, getK, zab, zac, Ob.under, D.under, zad, zae, hi, hne, zab, zac, zaa, getK]) (by simp [wkU, zan, zaa, getK, D.under, hi, hne, zab, zac, zaa, getK]) (by simp [wkE, zan, zaa, getK, hi, hne, zab, zac, zaa, getK])), by simp [hn], ?_⟩; try simp)
   exact PPost.zaw (by simp [PR.bind, *])
 ·simp only [hk2, if_false]
  (refine RetX.of_bodyW Tryz.func128 rfl (by simp) fun Γ hn hpan => ?_); simp only [entry, List.zipIdx_cons, List.zipIdx_nil, List.map_cons, List.map_nil, Nat.zero_add, Tryz.ntmps128]
  repeat' (first
  | (refine zaf ?_; simp [hne, hk2, del])
  | (refine zal ?_; simp [hne, hk2, del])
  | (refine zah ?_; simp [hne, hk2, del])
  | (refine CallP.fE (hnx) (by first | rfl | fail) (by first | (simp [hne, hk2, del]; done) | (simp [hne, hk2, del]; rfl) | fail) ?_; (try simp [hne, hk2, del]))
  | (refine CallP.zeb (hc2 _ _ (by first | omega | (simp; done) | (simp; omega) | fail)) (by first | (simp [hne, hk2, del, zaa, getK, zab, zac]; done) | fail) (by rfl) (by first | assumption | (simp; done) | fail) (by rfl) (by simp) ?_; rintro ob' ⟨q', rfl⟩; refine ⟨_, Wk.refl _, ?_⟩)
  | fail)
  (refine hpan _ _ ⟨{ n := _, env := [], obs := [(i, pOb l q')], next := nx }, (Wk.cut rfl (by simp [hn]) (by simp [wkO, zaa, getK, zab, zac, Ob.under, D.under, zad, zae, hi, hne, zab, zac, zaa, getK]) (by simp [wkU, zan, zaa, getK, D.under, hi, hne, zab, zac, zaa, getK]) (by simp [wkE, zan, zaa, getK, hi, hne, zab, zac, zaa, getK])), by simp [hn], ?_⟩; try simp)
  exact PPost.zaw (by simp [PR.bind, *])
theorem znn {l : List Tok} (hl : TokOK l) {p q : Nat} {a b n : Int} (h : zpS l p a b = .ok n q) : p ≤ q ∧ q < l.length := by
 unfold zpS at h
 split at h
 ·cases h
 ·rename_i t ht
  split at h
  ·rename_i hk2
   split at h
   ·cases h
    exact ⟨by omega, hl.fin p t ht (by omega)⟩
   ·cases h
  ·cases h
theorem zdP (l : List Tok) (p : Nat) (w : List UInt8) (a b : Int) (ws : List (List UInt8)) (i nx : Nat) (hi : i < nx) (hp : p < l.length) (hl : TokOK l) (hw : ws.length ≤ 100) :
  RetX Tryz.prog 80 [.ptr i 0, .u (.str w), ziD a, ziD b, .u (.sl (ws.map fun w => [.str w]))] [(i, pOb l p)] nx (PPost l i nx ziD (zdI l p w a b ws)) := by
 have hne := zaB hi
 have hh1 := fun nx' (h : nx ≤ nx') => zbg l p w i nx' (by omega) hp hl.len
 rw [zdI]
 cases hb : isB l p w with
 | false =>
  simp only [hb, Bool.false_eq_true, if_false] at hh1 ⊢
  (refine RetX.of_bodyW Tryz.func80 rfl (by simp) fun Γ hn hpan => ?_); simp only [entry, List.zipIdx_cons, List.zipIdx_nil, List.map_cons, List.map_nil, Nat.zero_add, Tryz.ntmps80]
  repeat' (first
  | (refine zaf ?_; simp [hne, del])
  | (refine zal ?_; simp [hne, del])
  | (refine zah ?_; simp [hne, del])
  | (refine zai ?_; simp [hne, del])
  | (refine zar ?_; simp only [zao])
  | (refine CallP.ok1 (hh1 _ (by first | omega | (simp; done) | (simp; omega) | fail)) (by first | (simp [hne, del, zaa, getK, zab, zac]; done) | fail) (by rfl) (by rfl) ?_; (try simp [hne, del]))
  | fail)
  (refine EndW.here ?_; (first | (refine EndOK.fin (.inr rfl) ?_) | (refine EndOK.fin (.inl rfl) ?_)); simp [zaL, zag, Tryz.results80, hne, hi]; refine FinOK.cut [(i, pOb l p)] (nx) (by simp [zaa, getK, zab, zac, Ob.under, D.under, zad, zae, hne, hi] <;> omega) (by simp [D.under]) (by simp [hn]) ?_; try simp)
  exact PPost.zcw rfl rfl rfl
 | true =>
  have hp2 := zbf hl hb
  simp only [hb, if_true] at hh1 ⊢
  have hn1 := fun nx' (h : nx ≤ nx') => zl7 l (p + 1) a b i nx' (by omega) hp2 hl
  cases hr0 : zpS l (p + 1) a b with
  | stop pos e =>
   simp only [hr0] at hn1
   (refine RetX.of_bodyW Tryz.func80 rfl (by simp) fun Γ hn hpan => ?_); simp only [entry, List.zipIdx_cons, List.zipIdx_nil, List.map_cons, List.map_nil, Nat.zero_add, Tryz.ntmps80]
   repeat' (first
  | (refine zaf ?_; simp [hne, del])
  | (refine zal ?_; simp [hne, del])
  | (refine zah ?_; simp [hne, del])
  | (refine zai ?_; simp [hne, del])
  | (refine zap ?_; simp only [zao])
  | (refine CallP.ok1 (hh1 _ (by first | omega | (simp; done) | (simp; omega) | fail)) (by first | (simp [hne, del, zaa, getK, zab, zac]; done) | fail) (by rfl) (by rfl) ?_; (try simp [hne, del]))
  | (refine CallP.zeb (hn1 _ (by first | omega | (simp; done) | (simp; omega) | fail)) (by first | (simp [hne, del, zaa, getK, zab, zac]; done) | fail) (by rfl) (by first | assumption | (simp; done) | fail) (by rfl) (by simp) ?_; rintro ob' ⟨q', rfl⟩; refine ⟨_, Wk.refl _, ?_⟩)
  | fail)
   (refine hpan _ _ ⟨{ n := _, env := [], obs := [(i, pOb l q')], next := nx }, (Wk.cut rfl (by simp [hn]) (by simp [wkO, zaa, getK, zab, zac, Ob.under, D.under, zad, zae, hi, hne, zab, zac, zaa, getK]) (by simp [wkU, zan, zaa, getK, D.under, hi, hne, zab, zac, zaa, getK]) (by simp [wkE, zan, zaa, getK, hi, hne, zab, zac, zaa, getK])), by simp [hn], ?_⟩; try simp)
   exact PPost.zaw (by simp [PR.bind, *])
  | ok n q0 =>
   simp only [hr0] at hn1
   obtain ⟨g0a, g0b⟩ := znn hl hr0
   have hw1 := fun nx' (h : nx ≤ nx') => zid l q0 ws i nx' (by omega) g0b hl hw
   cases hr1 : zbu l q0 ws with
   | stop pos e =>
    simp only [hr1] at hw1
    (refine RetX.of_bodyW Tryz.func80 rfl (by simp) fun Γ hn hpan => ?_); simp only [entry, List.zipIdx_cons, List.zipIdx_nil, List.map_cons, List.map_nil, Nat.zero_add, Tryz.ntmps80]
    repeat' (first
  | (refine zaf ?_; simp [hne, del])
  | (refine zal ?_; simp [hne, del])
  | (refine zah ?_; simp [hne, del])
  | (refine zai ?_; simp [hne, del])
  | (refine zap ?_; simp only [zao])
  | (refine CallP.ok1 (hh1 _ (by first | omega | (simp; done) | (simp; omega) | fail)) (by first | (simp [hne, del, zaa, getK, zab, zac]; done) | fail) (by rfl) (by rfl) ?_; (try simp [hne, del]))
  | (refine CallP.ok1 (hn1 _ (by first | omega | (simp; done) | (simp; omega) | fail)) (by first | (simp [hne, del, zaa, getK, zab, zac]; done) | fail) (by rfl) (by rfl) ?_; (try simp [hne, del]))
  | (refine CallP.zeb (hw1 _ (by first | omega | (simp; done) | (simp; omega) | fail)) (by first | (simp [hne, del, zaa, getK, zab, zac]; done) | fail) (by rfl) (by first | assumption | (simp; done) | fail) (by rfl) (by simp) ?_; rintro ob' ⟨q', rfl⟩; refine ⟨_, Wk.refl _, ?_⟩)
  | fail)
    (refine hpan _ _ ⟨{ n := _, env := [], obs := [(i, pOb l q')], next := nx }, (Wk.cut rfl (by simp [hn]) (by simp [wkO, zaa, getK, zab, zac, Ob.under, D.under, zad, zae, hi, hne, zab, zac, zaa, getK]) (by simp [wkU, zan, zaa, getK, D.under, hi, hne, zab, zac, zaa, getK]) (by simp [wkE, zan, zaa, getK, hi, hne, zab, zac, zaa, getK])), by simp [hn], ?_⟩; try simp)
    exact PPost.zaw (by simp [PR.bind, *])
   | ok u q =>
    simp only [hr1] at hw1
    (refine RetX.of_bodyW Tryz.func80 rfl (by simp) fun Γ hn hpan => ?_); simp only [entry, List.zipIdx_cons, List.zipIdx_nil, List.map_cons, List.map_nil, Nat.zero_add, Tryz.ntmps80]
    repeat' (first
  | (refine zaf ?_; simp [hne, del])
  | (refine zal ?_; simp [hne, del])
  | (refine zah ?_; simp [hne, del])
  | (refine zai ?_; simp [hne, del])
  | (refine zar ?_; simp only [zao])
  | (refine zap ?_; simp only [zao])
  | (refine CallP.ok1 (hh1 _ (by first | omega | (simp; done) | (simp; omega) | fail)) (by first | (simp [hne, del, zaa, getK, zab, zac]; done) | fail) (by rfl) (by rfl) ?_; (try simp [hne, del]))
  | (refine CallP.ok1 (hn1 _ (by first | omega | (simp; done) | (simp; omega) | fail)) (by first | (simp [hne, del, zaa, getK, zab, zac]; done) | fail) (by rfl) (by rfl) ?_; (try simp [hne, del]))
  | (refine CallP.ok1 (hw1 _ (by first | omega | (simp; done) | (simp; omega) | fail)) (by first | (simp [hne, del, zaa, getK, zab, zac]; done) | fail) (by rfl) (by rfl) ?_; (try simp [hne, del]))
  | fail)
    (refine EndW.here ?_; (first | (refine EndOK.fin (.inr rfl) ?_) | (refine EndOK.fin (.inl rfl) ?_)); simp [zaL, zag, Tryz.results80, hne, hi]; refine FinOK.cut [(i, pOb l q)] (nx) (by simp [zaa, getK, zab, zac, Ob.under, D.under, zad, zae, hne, hi] <;> omega) (by simp [D.under]) (by simp [hn]) ?_; try simp)
    exact PPost.zcw (by simp [PR.bind, *]) rfl rfl
theorem zdQ {l : List Tok} (hl : TokOK l) {p q : Nat} {w : List UInt8} {a b n : Int} {ws : List (List UInt8)} (h : zdI l p w a b ws = .ok n q) (hp : p < l.length) : p ≤ q ∧ q < l.length := by
 unfold zdI at h
 split at h
 ·obtain ⟨m, r, h1, h⟩ := PR.zaI h
  have g1 := znn hl h1
  obtain ⟨m2, r2, h2, h⟩ := PR.zaI h
  have g2 := za1 hl _ h2 g1.2
  cases h
  exact ⟨by omega, g2.2⟩
 ·cases h; exact ⟨by omega, hp⟩
theorem zgG (l : List Tok) (p : Nat) (i nx : Nat) (hi : i < nx) (hp : p < l.length) (hl : TokOK l) (hl2 : l.length ≤ 2001) :
  RetX Tryz.prog 84 [.ptr i 0] [(i, pOb l p)] nx (PPost l i nx zer (zdM l p)) := by
 have hne := zaB hi
 have hll := hl.len
 rw [zdM]
 have hE := fun nx' (h : nx ≤ nx') => (zju hl (4 * l.length + 3)).1 p 0 i nx' (by omega) hp (by omega) (by omega) (by omega)
 cases hr : zc6 l (4 * l.length + 3) p 0 with
 | stop pos e =>
  simp only [hr] at hE
  (refine RetX.of_bodyW Tryz.func84 rfl (by simp) fun Γ hn hpan => ?_); simp only [entry, List.zipIdx_cons, List.zipIdx_nil, List.map_cons, List.map_nil, Nat.zero_add, Tryz.ntmps84]
  repeat' (first
  | (refine zaf ?_; simp [hne, del])
  | (refine zal ?_; simp [hne, del])
  | (refine zah ?_; simp [hne, del])
  | (refine CallP.zeb (hE _ (by first | omega | (simp; done) | (simp; omega) | fail)) (by first | (simp [hne, del, zaa, getK, zab, zac]; done) | fail) (by rfl) (by first | assumption | (simp; done) | fail) (by rfl) (by simp) ?_; rintro ob' ⟨q', rfl⟩; refine ⟨_, Wk.refl _, ?_⟩)
  | fail)
  (refine hpan _ _ ⟨{ n := _, env := [], obs := [(i, pOb l q')], next := nx }, (Wk.cut rfl (by simp [hn]) (by simp [wkO, zaa, getK, zab, zac, Ob.under, D.under, zad, zae, hi, hne, zab, zac, zaa, getK]) (by simp [wkU, zan, zaa, getK, D.under, hi, hne, zab, zac, zaa, getK]) (by simp [wkE, zan, zaa, getK, hi, hne, zab, zac, zaa, getK])), by simp [hn], ?_⟩; try simp)
  exact PPost.zaw (by simp [PR.bind, *])
 | ok y q =>
  have hEx := fun nx' h => zcY (hE nx' h) hr
  obtain ⟨g0a, g0b⟩ := (zb2 hl _).1 _ _ _ _ hr hp
  have hlev := (zgW (l := l) _).1 _ _ _ _ hr
  have hlev2 : y.lev ≤ 1000000000 := by
   have h1 : ((4 * l.length + 3 : Nat) : Int) * ((4 * l.length + 3 : Nat) : Int) ≤ 8007 * 8007 := Int.mul_le_mul (by omega) (by omega) (by omega) (by omega)
   omega
  have hlv := zhX (SizeOf.sizeOf y) y (Nat.le_refl _) hlev2
  rw [Exp.row_eq] at hlv
  obtain ⟨t, ht⟩ : ∃ t, l[q]? = some t := ⟨_, List.getElem?_eq_getElem g0b⟩
  have his := zdR l q [59] g0b hl.len
  have hpa : zc5 l q = t.pos := by unfold zc5; rw [ht]
  have hc1 := fun e nx' (h : nx ≤ nx') => zdU l q e i nx' (by omega)
  have hc2 := fun e nx' (h : nx ≤ nx') => zcS l q t e i nx' (by omega) ht hl.len
  rw [PR.zav, hpa]
  cases hb : isB l q [59] with
  | false =>
   simp only [hb, Bool.false_eq_true, if_false] at his ⊢
   (refine RetX.of_bodyW Tryz.func84 rfl (by simp) fun Γ hn hpan => ?_); simp only [entry, List.zipIdx_cons, List.zipIdx_nil, List.map_cons, List.map_nil, Nat.zero_add, Tryz.ntmps84]
   repeat' (first
  | (refine zaf ?_; simp [hne, del])
  | (refine zal ?_; simp [hne, del])
  | (refine zah ?_; simp [hne, del])
  | (refine CallP.fE (his) (by first | rfl | fail) (by first | (simp [hne, del]; done) | (simp [hne, del]; rfl) | fail) ?_; (try simp [hne, del]))
  | (refine CallP.ok1 (hEx _ (by first | omega | (simp; done) | (simp; omega) | fail)) (by first | (simp [hne, del, zaa, getK, zab, zac]; done) | fail) (by rfl) (by rfl) ?_; (try simp [hne, del]))
  | (refine CallP.zeb (hc2 _ _ (by first | omega | (simp; done) | (simp; omega) | fail)) (by first | (simp [hne, del, zaa, getK, zab, zac]; done) | fail) (by rfl) (by first | assumption | (simp; done) | fail) (by rfl) (by simp) ?_; rintro ob' ⟨q', rfl⟩; refine ⟨_, Wk.refl _, ?_⟩)
  | fail)
   (refine hpan _ _ ⟨{ n := _, env := [], obs := [(i, pOb l q')], next := nx }, (Wk.cut rfl (by simp [hn]) (by simp [wkO, zaa, getK, zab, zac, Ob.under, D.under, zad, zae, hi, hne, zab, zac, zaa, getK]) (by simp [wkU, zan, zaa, getK, D.under, hi, hne, zab, zac, zaa, getK]) (by simp [wkE, zan, zaa, getK, hi, hne, zab, zac, zaa, getK])), by simp [hn], ?_⟩; try simp)
   exact PPost.zaw (by simp [PR.bind, *])
  | true =>
   have hq2 := zbf hl hb
   simp only [hb, if_true] at his ⊢
   by_cases hv : y.lev ≤ 12
   ·simp only [hv, if_true]
    (refine RetX.of_bodyW Tryz.func84 rfl (by simp) fun Γ hn hpan => ?_); simp only [entry, List.zipIdx_cons, List.zipIdx_nil, List.map_cons, List.map_nil, Nat.zero_add, Tryz.ntmps84]
    repeat' (first
  | (refine zaf ?_; simp [hne, del, hv])
  | (refine zal ?_; simp [hne, del, hv])
  | (refine ⟨by omega, ?_⟩)
  | (refine zah ?_; simp [hne, del, hv])
  | (refine zar ?_; simp only [zao])
  | (refine CallP.fE (his) (by first | rfl | fail) (by first | (simp [hne, del, hv]; done) | (simp [hne, del, hv]; rfl) | fail) ?_; (try simp [hne, del, hv]))
  | (refine CallP.fE (hlv) (by first | rfl | fail) (by first | (simp [hne, del, hv]; done) | (simp [hne, del, hv]; rfl) | fail) ?_; (try simp [hne, del, hv]))
  | (refine CallP.ok1 (hEx _ (by first | omega | (simp; done) | (simp; omega) | fail)) (by first | (simp [hne, del, hv, zaa, getK, zab, zac]; done) | fail) (by rfl) (by rfl) ?_; (try simp [hne, del, hv]))
  | (refine CallP.ok1 (hc1 _ _ (by first | omega | (simp; done) | (simp; omega) | fail)) (by first | (simp [hne, del, hv, zaa, getK, zab, zac]; done) | fail) (by rfl) (by rfl) ?_; (try simp [hne, del, hv]))
  | fail)
    refine EndW.norm ?_
    simp [St.norm, zbl, zb8, zcx, zcy, hne, Nat.add_assoc]
    (refine EndW.here ?_; (first | (refine EndOK.fin (.inr rfl) ?_) | (refine EndOK.fin (.inl rfl) ?_)); simp [zaL, zag, Tryz.results84, hne, hi]; refine FinOK.cut [(i, pOb l (q + 1))] (nx) (by simp [zaa, getK, zab, zac, Ob.under, D.under, zad, zae, hne, hi] <;> omega) (by simp [D.under]) (by simp [hn]) ?_; try simp)
    exact PPost.zcw rfl (by simp [Exp.row_eq]) rfl
   ·simp only [hv, if_false]
    (refine RetX.of_bodyW Tryz.func84 rfl (by simp) fun Γ hn hpan => ?_); simp only [entry, List.zipIdx_cons, List.zipIdx_nil, List.map_cons, List.map_nil, Nat.zero_add, Tryz.ntmps84]
    repeat' (first
  | (refine zaf ?_; simp [hne, del, hv])
  | (refine zal ?_; simp [hne, del, hv])
  | (refine zah ?_; simp [hne, del, hv])
  | (refine CallP.fE (his) (by first | rfl | fail) (by first | (simp [hne, del, hv]; done) | (simp [hne, del, hv]; rfl) | fail) ?_; (try simp [hne, del, hv]))
  | (refine CallP.fE (hlv) (by first | rfl | fail) (by first | (simp [hne, del, hv]; done) | (simp [hne, del, hv]; rfl) | fail) ?_; (try simp [hne, del, hv]))
  | (refine CallP.ok1 (hEx _ (by first | omega | (simp; done) | (simp; omega) | fail)) (by first | (simp [hne, del, hv, zaa, getK, zab, zac]; done) | fail) (by rfl) (by rfl) ?_; (try simp [hne, del, hv]))
  | (refine CallP.ok1 (hc1 _ _ (by first | omega | (simp; done) | (simp; omega) | fail)) (by first | (simp [hne, del, hv, zaa, getK, zab, zac]; done) | fail) (by rfl) (by rfl) ?_; (try simp [hne, del, hv]))
  | (refine CallP.zeb (hc2 _ _ (by first | omega | (simp; done) | (simp; omega) | fail)) (by first | (simp [hne, del, hv, zaa, getK, zab, zac]; done) | fail) (by rfl) (by first | assumption | (simp; done) | fail) (by rfl) (by simp) ?_; rintro ob' ⟨q', rfl⟩; refine ⟨_, Wk.refl _, ?_⟩)
  | fail)
    (refine hpan _ _ ⟨{ n := _, env := [], obs := [(i, pOb l q')], next := nx }, (Wk.cut rfl (by simp [hn]) (by simp [wkO, zaa, getK, zab, zac, Ob.under, D.under, zad, zae, hi, hne, zab, zac, zaa, getK]) (by simp [wkU, zan, zaa, getK, D.under, hi, hne, zab, zac, zaa, getK]) (by simp [wkE, zan, zaa, getK, hi, hne, zab, zac, zaa, getK])), by simp [hn], ?_⟩; try simp)
    exact PPost.zaw (by simp [PR.bind, *])
theorem zgI {l : List Tok} (hl : TokOK l) {p q : Nat} {e : Exp} (h : zdM l p = .ok e q) (hp : p < l.length) : p ≤ q ∧ q < l.length := by
 unfold zdM at h
 obtain ⟨y, r, h1, h⟩ := PR.zaI h
 have g1 := (zb2 hl _).1 _ _ _ _ h1 hp
 split at h
 ·rename_i hb
  split at h
  ·cases h
   exact ⟨by omega, zbf hl hb⟩
  ·cases h
 ·cases h
theorem zgZ : Fun Tryz.prog 58 [] (· = .u (.agg nothingE.row)) := by
 simp only [nothingE, Exp.row, List.map_nil]
 (refine Fun.of_bodyW Tryz.func58 rfl (by simp) fun Γ hn => ?_); simp only [entry, List.zipIdx_cons, List.zipIdx_nil, List.map_cons, List.map_nil, Nat.zero_add, Tryz.ntmps58]
 repeat' (first
  | (refine zaf ?_; simp)
  | (refine zal ?_; simp)
  | (refine zah ?_; simp)
  | (refine zar ?_; simp only [zao])
  | fail)
 refine EndW.norm ?_
 simp [St.norm, zbl, zb8, zcx, zcy]
 refine EndW.here ?_
 (refine EndOK.val (.inr rfl) ?_; simp [zaL, zag, zas, Tryz.results58])
theorem zeU (l : List Tok) (p : Nat) (w : List UInt8) (i nx : Nat) (hi : i < nx) (hp : p < l.length) (hl : TokOK l) (hl2 : l.length ≤ 2001) :
  RetX Tryz.prog 85 [.ptr i 0, .u (.str w)] [(i, pOb l p)] nx (PPost l i nx zer (zc7 l p w)) := by
 have hne := zaB hi
 have hh1 := fun nx' (h : nx ≤ nx') => zbg l p w i nx' (by omega) hp hl.len
 rw [zc7]
 cases hb : isB l p w with
 | false =>
  have h0 := zgZ
  simp only [nothingE, Exp.row, List.map_nil] at h0
  simp only [hb, Bool.false_eq_true, if_false] at hh1 ⊢
  (refine RetX.of_bodyW Tryz.func85 rfl (by simp) fun Γ hn hpan => ?_); simp only [entry, List.zipIdx_cons, List.zipIdx_nil, List.map_cons, List.map_nil, Nat.zero_add, Tryz.ntmps85]
  repeat' (first
  | (refine zaf ?_; simp [hne, del])
  | (refine zal ?_; simp [hne, del])
  | (refine zah ?_; simp [hne, del])
  | (refine zai ?_; simp [hne, del])
  | (refine zar ?_; simp only [zao])
  | (refine zap ?_; simp only [zao])
  | (refine CallP.fE (h0) (by first | rfl | fail) (by first | (simp [hne, del]; done) | (simp [hne, del]; rfl) | fail) ?_; (try simp [hne, del]))
  | (refine CallP.ok1 (hh1 _ (by first | omega | (simp; done) | (simp; omega) | fail)) (by first | (simp [hne, del, zaa, getK, zab, zac]; done) | fail) (by rfl) (by rfl) ?_; (try simp [hne, del]))
  | fail)
  refine EndW.norm ?_
  simp [St.norm, zbl, zb8, zcx, zcy, hne, Nat.add_assoc]
  (refine EndW.here ?_; (first | (refine EndOK.fin (.inr rfl) ?_) | (refine EndOK.fin (.inl rfl) ?_)); simp [zaL, zag, Tryz.results85, hne, hi]; refine FinOK.cut [(i, pOb l p)] (nx) (by simp [zaa, getK, zab, zac, Ob.under, D.under, zad, zae, hne, hi] <;> omega) (by simp [D.under]) (by simp [hn]) ?_; try simp)
  exact PPost.zcw rfl (by simp [nothingE, Exp.row]) rfl
 | true =>
  have hp2 := zbf hl hb
  simp only [hb, if_true] at hh1 ⊢
  have hn1 := fun nx' (h : nx ≤ nx') => zgG l (p + 1) i nx' (by omega) hp2 hl hl2
  cases hr0 : zdM l (p + 1) with
  | stop pos e =>
   simp only [hr0] at hn1
   (refine RetX.of_bodyW Tryz.func85 rfl (by simp) fun Γ hn hpan => ?_); simp only [entry, List.zipIdx_cons, List.zipIdx_nil, List.map_cons, List.map_nil, Nat.zero_add, Tryz.ntmps85]
   repeat' (first
  | (refine zaf ?_; simp [hne, del])
  | (refine zal ?_; simp [hne, del])
  | (refine zah ?_; simp [hne, del])
  | (refine zai ?_; simp [hne, del])
  | (refine CallP.ok1 (hh1 _ (by first | omega | (simp; done) | (simp; omega) | fail)) (by first | (simp [hne, del, zaa, getK, zab, zac]; done) | fail) (by rfl) (by rfl) ?_; (try simp [hne, del]))
  | (refine CallP.zeb (hn1 _ (by first | omega | (simp; done) | (simp; omega) | fail)) (by first | (simp [hne, del, zaa, getK, zab, zac]; done) | fail) (by rfl) (by first | assumption | (simp; done) | fail) (by rfl) (by simp) ?_; rintro ob' ⟨q', rfl⟩; refine ⟨_, Wk.refl _, ?_⟩)
  | fail)
   (refine hpan _ _ ⟨{ n := _, env := [], obs := [(i, pOb l q')], next := nx }, (Wk.cut rfl (by simp [hn]) (by simp [wkO, zaa, getK, zab, zac, Ob.under, D.under, zad, zae, hi, hne, zab, zac, zaa, getK]) (by simp [wkU, zan, zaa, getK, D.under, hi, hne, zab, zac, zaa, getK]) (by simp [wkE, zan, zaa, getK, hi, hne, zab, zac, zaa, getK])), by simp [hn], ?_⟩; try simp)
   exact PPost.zaw (by simp [PR.bind, *])
  | ok n q0 =>
   have hn1 := fun nx' h => zcY (hn1 nx' h) hr0
   (refine RetX.of_bodyW Tryz.func85 rfl (by simp) fun Γ hn hpan => ?_); simp only [entry, List.zipIdx_cons, List.zipIdx_nil, List.map_cons, List.map_nil, Nat.zero_add, Tryz.ntmps85]
   repeat' (first
  | (refine zaf ?_; simp [hne, del])
  | (refine zal ?_; simp [hne, del])
  | (refine zah ?_; simp [hne, del])
  | (refine zai ?_; simp [hne, del])
  | (refine zar ?_; simp only [zao])
  | (refine CallP.ok1 (hh1 _ (by first | omega | (simp; done) | (simp; omega) | fail)) (by first | (simp [hne, del, zaa, getK, zab, zac]; done) | fail) (by rfl) (by rfl) ?_; (try simp [hne, del]))
  | (refine CallP.ok1 (hn1 _ (by first | omega | (simp; done) | (simp; omega) | fail)) (by first | (simp [hne, del, zaa, getK, zab, zac]; done) | fail) (by rfl) (by rfl) ?_; (try simp [hne, del]))
  | fail)
   refine EndW.norm ?_
   simp [St.norm, zbl, zb8, zcx, zcy, hne, Nat.add_assoc]
   (refine EndW.here ?_; (first | (refine EndOK.fin (.inr rfl) ?_) | (refine EndOK.fin (.inl rfl) ?_)); simp [zaL, zag, Tryz.results85, hne, hi]; refine FinOK.cut [(i, pOb l q0)] (nx) (by simp [zaa, getK, zab, zac, Ob.under, D.under, zad, zae, hne, hi] <;> omega) (by simp [D.under]) (by simp [hn]) ?_; try simp)
   exact PPost.zcw rfl (by simp [Exp.row_eq]) rfl
theorem zeV {l : List Tok} (hl : TokOK l) {p q : Nat} {w : List UInt8} {e : Exp} (h : zc7 l p w = .ok e q) (hp : p < l.length) : p ≤ q ∧ q < l.length := by
 unfold zc7 at h
 split at h
 ·rename_i hb
  have := zgI hl h (zbf hl hb)
  exact ⟨by omega, this.2⟩
 ·cases h; exact ⟨by omega, hp⟩
/-- The objects of Print: the variable of the closure line, the builder, and its bytes. -/
abbrev zce : Ob := .box [.fnc (.func 52) [.ptr 1 0]]
abbrev zdo (j : Nat) (l : W8) : Ob := .box [.ptr 1 0, .vec j l.length]
abbrev zdn (l : W8) : Ob := .vec u8T 1 (zcB l)
/-- What a line's writing leaves. -/
def zq7 (j nx : Nat) (T : W8) (d : D) (o : List (Nat × Ob)) (n : Nat) : Prop := d = .tup [] ∧ ∃ j', 3 ≤ j' ∧ j' < n ∧ nx ≤ n ∧ o = [(2, zce), (1, zdo j' T), (j', zdn T)]
def zb7 (w : W8) (n : Int) (ws : List W8) : W8 := if n = 0 then [] else zbP (w :: Lib.itoa n :: ws)
theorem zg5 (l : W8) (ws : List W8) (j nx : Nat) (hj3 : 3 ≤ j) (hj : j < nx) (hlen : l.length + (zbP ws).length ≤ 140737488355328) (hN : ws.length ≤ 140737488355328) :
  RetX Tryz.prog 52 [.u (.sl (ws.map fun w => [.str w])), .ptr 1 0] [(1, zdo j l), (j, zdn l)] nx
   (fun r o n => r = .val (.tup []) ∧ o = [(1, zdo nx (l ++ zbP ws)), (nx, zdn (l ++ zbP ws))] ∧ n = nx + 1) := znx l ws 1 j nx (by omega) hj (by omega) hlen hN
theorem zdh (l w : W8) (n : Int) (ws : List W8) (j nx : Nat) (hj3 : 3 ≤ j) (hj : j < nx) (h0 : 0 ≤ n) (h1 : n ≤ 1099511627776) (hlen : l.length + (zb7 w n ws).length ≤ 100000000000000) (hN : ws.length ≤ 1000) :
  RetX Tryz.prog 55 [.u (.str w), .u (.int .i64 n), .u (.sl (ws.map fun w => [.str w])), .ptr 2 0] [(2, zce), (1, zdo j l), (j, zdn l)] nx
   (fun r o N => ∃ d, r = .val d ∧ zq7 j nx (l ++ zb7 w n ws) d o N) := by
 have hit := zlo n (by omega) (by omega)
 have h2 : 2 < nx := by omega
 have h2j : ¬ (2 : Nat) = j := by omega
 have h1j : ¬ (1 : Nat) = j := by omega
 have hj2 : ¬ j = 2 := by omega
 have hj1 : ¬ j = 1 := by omega
 have hx0 : ¬ nx = 0 := by omega
 have hx1 : ¬ nx = 1 := by omega
 have hx2 : ¬ nx = 2 := by omega
 have hjx : ¬ j = nx + 1 := by omega
 have hne := zaB h2
 have hne1 := zaB (show 1 < nx by omega)
 have hnej := zaB hj
 by_cases hz : n = 0
 ·rw [zb7, if_pos hz, List.append_nil]
  (refine RetX.of_bodyW Tryz.func55 rfl (by simp) fun Γ hn hpan => ?_); simp only [entry, List.zipIdx_cons, List.zipIdx_nil, List.map_cons, List.map_nil, Nat.zero_add, Tryz.ntmps55]
  repeat' (first
  | (refine zaf ?_; simp [hz])
  | (refine zal ?_; simp [hz])
  | (refine zah ?_; simp [hz])
  | (refine zai ?_; simp [hz])
  | (refine zap ?_; simp only [zao])
  | fail)
  (refine EndW.here ?_; (first | (refine EndOK.fin (.inr rfl) ?_) | (refine EndOK.fin (.inl rfl) ?_)); simp [zaL, zag, Tryz.results55, hne, hne1, hnej, h2j, h1j, hj2, hj1, hj, h2]; refine FinOK.cut [(2, zce), (1, zdo j l), (j, zdn l)] (nx) (by simp [zaa, getK, zab, zac, Ob.under, D.under, zad, zae, hne, hne1, hnej, h2j, h1j, hj2, hj1, hj, h2] <;> omega) (by simp [D.under]) (by simp [hn]) ?_; try simp)
  exact ⟨rfl, j, hj3, hj, Nat.le_refl _, rfl⟩
 ·rw [zb7, if_neg hz] at hlen ⊢
  have hln := fun nx' (h : nx ≤ nx') => zg5 l (w :: Lib.itoa n :: ws) j nx' hj3 (by omega) (by omega) (by simp; omega)
  simp only [List.map_cons] at hln
  (refine RetX.of_bodyW Tryz.func55 rfl (by simp) fun Γ hn hpan => ?_); simp only [entry, List.zipIdx_cons, List.zipIdx_nil, List.map_cons, List.map_nil, Nat.zero_add, Tryz.ntmps55]
  have hA : 2 + ws.length ≤ ws.length + 1 + 1 := by omega
  have hB : List.take (2 + ws.length) ([U.str w] :: [U.str (Lib.itoa n)] :: List.map (fun w => [U.str w]) ws) = [U.str w] :: [U.str (Lib.itoa n)] :: List.map (fun w => [U.str w]) ws := List.take_of_length_le (by simp; omega)
  skip
  repeat' (first
  | (refine zdy ?_; simp [hz, hne, hne1, hnej, h2j, h1j, hj2, hj1, hx0, hx1, hx2, hjx, hA, hB, zaj, frzS, zaz])
  | (refine zel rfl rfl (by decide +kernel) (by first | (simp [hn]; done) | (simp [hn]; omega) | fail) fun C k hC hk => ?_; simp [hz, hne, hne1, hnej, h2j, h1j, hj2, hj1, hx0, hx1, hx2, hjx, hA, hB, zaj, frzS, zaz])
  | (refine zaf ?_; simp [hz, hne, hne1, hnej, h2j, h1j, hj2, hj1, hx0, hx1, hx2, hjx, hA, hB, zaj, frzS, zaz])
  | (refine zbt rfl ?_; simp [hz, hne, hne1, hnej, h2j, h1j, hj2, hj1, hx0, hx1, hx2, hjx, hA, hB, zaj, frzS, zaz])
  | (refine zcc rfl ?_; simp [hz, hne, hne1, hnej, h2j, h1j, hj2, hj1, hx0, hx1, hx2, hjx, hA, hB, zaj, frzS, zaz])
  | (refine zal ?_; simp [hz, hne, hne1, hnej, h2j, h1j, hj2, hj1, hx0, hx1, hx2, hjx, hA, hB, zaj, frzS, zaz])
  | (refine ⟨by omega, ?_⟩)
  | (refine zah ?_; simp [hz, hne, hne1, hnej, h2j, h1j, hj2, hj1, hx0, hx1, hx2, hjx, hA, hB, zaj, frzS, zaz])
  | (refine zai ?_; simp [hz, hne, hne1, hnej, h2j, h1j, hj2, hj1, hx0, hx1, hx2, hjx, hA, hB, zaj, frzS, zaz])
  | (refine zbQ (hC _ (zcr [2] (nx) (by simp <;> omega) (by simp <;> omega) (by apply Exists.intro; apply And.intro; (focus (repeat' (first | exact KF.nil | exact KL.nil | apply KF.cons | apply KL.cons 0 rfl | apply KL.cons 1 rfl | apply KL.cons 2 rfl | apply KL.cons 3 rfl | apply KL.cons 4 rfl | apply KL.cons 5 rfl | apply KL.cons 6 rfl | apply KL.cons 7 rfl | apply KL.cons 8 rfl | apply KL.cons 9 rfl))); kernel_rfl))) (hk _ ?_); clear hC hk C k; simp only [zao])
  | (refine CallV.fun_ (hit) (by first | rfl | fail) (by first | (simp [hz, hne, hne1, hnej, h2j, h1j, hj2, hj1, hx0, hx1, hx2, hjx, hA, hB, zaj, frzS, zaz]; done) | (simp [hz, hne, hne1, hnej, h2j, h1j, hj2, hj1, hx0, hx1, hx2, hjx, hA, hB, zaj, frzS, zaz]; rfl) | fail) ?_ <;> (try simp [hz, hne, hne1, hnej, h2j, h1j, hj2, hj1, hx0, hx1, hx2, hjx, hA, hB, zaj, frzS, zaz]))
  | (refine zaq (by first | rfl | fail) ?_; simp [hz, hne, hne1, hnej, h2j, h1j, hj2, hj1, hx0, hx1, hx2, hjx, hA, hB, zaj, frzS, zaz, frzN, frz1, zay, zax, St.frz, St.frzS, frzS, fv, zaz, za5, za8, zaF, zat, zaj, del, frz, za9])
  | (refine CallP.okL (hln _ (by first | omega | (simp; done) | (simp; omega) | fail)) (by first | (simp [hz, hne, hne1, hnej, h2j, h1j, hj2, hj1, hx0, hx1, hx2, hjx, hA, hB, zaj, frzS, zaz, zaa, getK, zab, zac, zak, zaJ, del]; done) | fail) (by rfl) (by rfl) ?_; (try simp [hz, hne, hne1, hnej, h2j, h1j, hj2, hj1, hx0, hx1, hx2, hjx, hA, hB, zaj, frzS, zaz, zdf, del]))
  | fail)
  generalize l ++ zbP (w :: Lib.itoa n :: ws) = T at *
  (refine EndW.here ?_; (first | (refine EndOK.fin (.inr rfl) ?_) | (refine EndOK.fin (.inl rfl) ?_)); simp [zaL, zag, Tryz.results55, hne, hne1, hnej, h2j, h1j, hj2, hj1, hx0, hx1, hx2, hj, h2]; refine FinOK.cut [(2, zce), (1, zdo (nx + 2) T), (nx + 2, zdn T)] (nx + 3) (by simp [zaa, getK, zab, zac, Ob.under, D.under, zad, zae, hne, hne1, hnej, h2j, h1j, hj2, hj1, hx0, hx1, hx2, hj, h2] <;> omega) (by simp [D.under]) (by simp [hn]) ?_; try simp)
  exact ⟨rfl, nx + 2, by omega, by omega, by omega, rfl⟩
noncomputable def clauseT (w : W8) (e : Exp) : W8 := if eqB e nothingE = true ∧ w ≠ [100, 117, 101] then [] else zbP [w, txt e 0]
theorem zjK (w v : W8) : (zbP [w, v]).length = w.length + v.length + 4 := by
 rw [zbP, zaV, zbd]; simp; omega
theorem zdm (l w : W8) (e : Exp) (j nx : Nat) (hj3 : 3 ≤ j) (hj : j < nx) (he : zaE 12 e = true) (hlen : l.length + w.length ≤ 10000000000000) :
  RetX Tryz.prog 57 [.u (.str w), .u (.agg e.row), .ptr 2 0] [(2, zce), (1, zdo j l), (j, zdn l)] nx
   (fun r o N => ∃ d, r = .val d ∧ zq7 j nx (l ++ clauseT w e) d o N) := by
 have hsm : zdu e nothingE := zck e nothingE
 unfold zdu at hsm
 have hno := zgZ
 have hsh := zgu 12 (Nat.le_refl _) e he 0
 have htl := zcD he (Nat.le_refl _) 0
 have hln2 := zjK w (txt e 0)
 have h2 : 2 < nx := by omega
 have h2j : ¬ (2 : Nat) = j := by omega
 have h1j : ¬ (1 : Nat) = j := by omega
 have hj2 : ¬ j = 2 := by omega
 have hj1 : ¬ j = 1 := by omega
 have hx0 : ¬ nx = 0 := by omega
 have hx1 : ¬ nx = 1 := by omega
 have hx2 : ¬ nx = 2 := by omega
 have hjx : ¬ j = nx + 1 := by omega
 have hjx2 : ¬ j = nx + 2 := by omega
 have hne := zaB h2
 have hne1 := zaB (show 1 < nx by omega)
 have hnej := zaB hj
 rw [clauseT]
 rw [show nothingE.row = [.int .i64 0, .int .i64 0, .int .i64 3, .str [], .sl []] by simp [nothingE, Exp.row]] at hsm hno
 rw [Exp.row_eq e] at *
 generalize eqB e nothingE = E at *
 by_cases hc1 : E = true ∧ w ≠ [100, 117, 101]
 ·rw [if_pos hc1, List.append_nil]
  obtain ⟨rfl, hw⟩ := hc1
  (refine RetX.of_bodyW Tryz.func57 rfl (by simp) fun Γ hn hpan => ?_); simp only [entry, List.zipIdx_cons, List.zipIdx_nil, List.map_cons, List.map_nil, Nat.zero_add, Tryz.ntmps57]
  skip
  repeat' (first
  | (refine zaf ?_; simp [hw, hne, hne1, hnej, h2j, h1j, hj2, hj1, hx0, hx1, hx2, hjx])
  | (refine zbt rfl ?_; simp [hw, hne, hne1, hnej, h2j, h1j, hj2, hj1, hx0, hx1, hx2, hjx])
  | (refine ziX rfl ?_; simp [hw, hne, hne1, hnej, h2j, h1j, hj2, hj1, hx0, hx1, hx2, hjx])
  | (refine zal ?_; simp [hw, hne, hne1, hnej, h2j, h1j, hj2, hj1, hx0, hx1, hx2, hjx])
  | (refine zah ?_; simp [hw, hne, hne1, hnej, h2j, h1j, hj2, hj1, hx0, hx1, hx2, hjx])
  | (refine zai ?_; simp [hw, hne, hne1, hnej, h2j, h1j, hj2, hj1, hx0, hx1, hx2, hjx])
  | (refine zbQ (hC _ (zcr [2] (nx) (by simp <;> omega) (by simp <;> omega) (by apply Exists.intro; apply And.intro; (focus (repeat' (first | exact KF.nil | exact KL.nil | apply KF.cons | apply KL.cons 0 rfl | apply KL.cons 1 rfl | apply KL.cons 2 rfl | apply KL.cons 3 rfl | apply KL.cons 4 rfl | apply KL.cons 5 rfl | apply KL.cons 6 rfl | apply KL.cons 7 rfl | apply KL.cons 8 rfl | apply KL.cons 9 rfl))); kernel_rfl))) (hk _ ?_); clear hC hk C k; simp only [zao])
  | (refine zb6 rfl (by kernel_rfl) (by first | (simp [hn]; done) | (simp [hn]; omega) | fail) fun C k hC hk => ?_; simp [hw, hne, hne1, hnej, h2j, h1j, hj2, hj1, hx0, hx1, hx2, hjx])
  | (refine zhs rfl (by simp [hw, hne, hne1, hnej, h2j, h1j, hj2, hj1, hx0, hx1, hx2, hjx]) (fun hc => ?_) (fun hc => ?_) <;> (try simp [hw, hne, hne1, hnej, h2j, h1j, hj2, hj1, hx0, hx1, hx2, hjx] at hc) <;> (try (exfalso; omega)) <;> (try simp [hw, hne, hne1, hnej, h2j, h1j, hj2, hj1, hx0, hx1, hx2, hjx]))
  | (refine zap ?_; simp only [zao])
  | (refine CallV.fun_ (hno) (by first | rfl | fail) (by first | (simp [hw, hne, hne1, hnej, h2j, h1j, hj2, hj1, hx0, hx1, hx2, hjx]; done) | (simp [hw, hne, hne1, hnej, h2j, h1j, hj2, hj1, hx0, hx1, hx2, hjx]; rfl) | fail) ?_ <;> (try simp [hw, hne, hne1, hnej, h2j, h1j, hj2, hj1, hx0, hx1, hx2, hjx]))
  | (refine CallV.fun_ (hsm) (by first | rfl | fail) (by first | (simp [hw, hne, hne1, hnej, h2j, h1j, hj2, hj1, hx0, hx1, hx2, hjx]; done) | (simp [hw, hne, hne1, hnej, h2j, h1j, hj2, hj1, hx0, hx1, hx2, hjx]; rfl) | fail) ?_ <;> (try simp [hw, hne, hne1, hnej, h2j, h1j, hj2, hj1, hx0, hx1, hx2, hjx]))
  | fail)
  (refine EndW.here ?_; (first | (refine EndOK.fin (.inr rfl) ?_) | (refine EndOK.fin (.inl rfl) ?_)); simp [zaL, zag, Tryz.results57, hne, hne1, hnej, h2j, h1j, hj2, hj1, hx0, hx1, hx2, hj, h2]; refine FinOK.cut [(2, zce), (1, zdo j l), (j, zdn l)] (nx) (by simp [zaa, getK, zab, zac, Ob.under, D.under, zad, zae, hne, hne1, hnej, h2j, h1j, hj2, hj1, hx0, hx1, hx2, hj, h2] <;> omega) (by simp [D.under]) (by simp [hn]) ?_; try simp)
  exact ⟨rfl, j, hj3, hj, Nat.le_refl _, rfl⟩
 ·rw [if_neg hc1]
  have hln := fun nx' (h : nx ≤ nx') => zg5 l [w, txt e 0] j nx' hj3 (by omega) (by omega) (by simp)
  simp only [List.map_cons, List.map_nil] at hln
  generalize txt e 0 = T0 at *
  generalize l ++ zbP [w, T0] = T at *
  cases E with
  | false =>
   (refine RetX.of_bodyW Tryz.func57 rfl (by simp) fun Γ hn hpan => ?_); simp only [entry, List.zipIdx_cons, List.zipIdx_nil, List.map_cons, List.map_nil, Nat.zero_add, Tryz.ntmps57]
   skip
   repeat' (first
  | (refine zdy ?_; simp [hne, hne1, hnej, h2j, h1j, hj2, hj1, hx0, hx1, hx2, hjx, hjx2, zaj, frzS, zaz])
  | (refine zel rfl rfl (by decide +kernel) (by first | (simp [hn]; done) | (simp [hn]; omega) | fail) fun C k hC hk => ?_; simp [hne, hne1, hnej, h2j, h1j, hj2, hj1, hx0, hx1, hx2, hjx, hjx2, zaj, frzS, zaz])
  | (refine zaf ?_; simp [hne, hne1, hnej, h2j, h1j, hj2, hj1, hx0, hx1, hx2, hjx, hjx2, zaj, frzS, zaz])
  | (refine zbt rfl ?_; simp [hne, hne1, hnej, h2j, h1j, hj2, hj1, hx0, hx1, hx2, hjx, hjx2, zaj, frzS, zaz])
  | (refine zcc rfl ?_; simp [hne, hne1, hnej, h2j, h1j, hj2, hj1, hx0, hx1, hx2, hjx, hjx2, zaj, frzS, zaz])
  | (refine zal ?_; simp [hne, hne1, hnej, h2j, h1j, hj2, hj1, hx0, hx1, hx2, hjx, hjx2, zaj, frzS, zaz])
  | (refine zah ?_; simp [hne, hne1, hnej, h2j, h1j, hj2, hj1, hx0, hx1, hx2, hjx, hjx2, zaj, frzS, zaz])
  | (refine zai ?_; simp [hne, hne1, hnej, h2j, h1j, hj2, hj1, hx0, hx1, hx2, hjx, hjx2, zaj, frzS, zaz])
  | (refine zbQ (hC _ (zcr [2] (nx) (by simp <;> omega) (by simp <;> omega) (by apply Exists.intro; apply And.intro; (focus (repeat' (first | exact KF.nil | exact KL.nil | apply KF.cons | apply KL.cons 0 rfl | apply KL.cons 1 rfl | apply KL.cons 2 rfl | apply KL.cons 3 rfl | apply KL.cons 4 rfl | apply KL.cons 5 rfl | apply KL.cons 6 rfl | apply KL.cons 7 rfl | apply KL.cons 8 rfl | apply KL.cons 9 rfl))); kernel_rfl))) (hk _ ?_); clear hC hk C k; simp only [zao])
  | (refine zb6 rfl (by kernel_rfl) (by first | (simp [hn]; done) | (simp [hn]; omega) | fail) fun C k hC hk => ?_; simp [hne, hne1, hnej, h2j, h1j, hj2, hj1, hx0, hx1, hx2, hjx, hjx2, zaj, frzS, zaz])
  | (refine zhs rfl (by simp [hne, hne1, hnej, h2j, h1j, hj2, hj1, hx0, hx1, hx2, hjx, hjx2, zaj, frzS, zaz]) (fun hc => ?_) (fun hc => ?_) <;> (try simp [hne, hne1, hnej, h2j, h1j, hj2, hj1, hx0, hx1, hx2, hjx, hjx2, zaj, frzS, zaz] at hc) <;> (try (exfalso; omega)) <;> (try simp [hne, hne1, hnej, h2j, h1j, hj2, hj1, hx0, hx1, hx2, hjx, hjx2, zaj, frzS, zaz]))
  | (refine CallV.fun_ (hno) (by first | rfl | fail) (by first | (simp [hne, hne1, hnej, h2j, h1j, hj2, hj1, hx0, hx1, hx2, hjx, hjx2, zaj, frzS, zaz]; done) | (simp [hne, hne1, hnej, h2j, h1j, hj2, hj1, hx0, hx1, hx2, hjx, hjx2, zaj, frzS, zaz]; rfl) | fail) ?_ <;> (try simp [hne, hne1, hnej, h2j, h1j, hj2, hj1, hx0, hx1, hx2, hjx, hjx2, zaj, frzS, zaz]))
  | (refine CallV.fun_ (hsm) (by first | rfl | fail) (by first | (simp [hne, hne1, hnej, h2j, h1j, hj2, hj1, hx0, hx1, hx2, hjx, hjx2, zaj, frzS, zaz]; done) | (simp [hne, hne1, hnej, h2j, h1j, hj2, hj1, hx0, hx1, hx2, hjx, hjx2, zaj, frzS, zaz]; rfl) | fail) ?_ <;> (try simp [hne, hne1, hnej, h2j, h1j, hj2, hj1, hx0, hx1, hx2, hjx, hjx2, zaj, frzS, zaz]))
  | (refine CallV.fun_ (hsh) (by first | rfl | fail) (by first | (simp [hne, hne1, hnej, h2j, h1j, hj2, hj1, hx0, hx1, hx2, hjx, hjx2, zaj, frzS, zaz]; done) | (simp [hne, hne1, hnej, h2j, h1j, hj2, hj1, hx0, hx1, hx2, hjx, hjx2, zaj, frzS, zaz]; rfl) | fail) ?_ <;> (try simp [hne, hne1, hnej, h2j, h1j, hj2, hj1, hx0, hx1, hx2, hjx, hjx2, zaj, frzS, zaz]))
  | (refine zaq (by first | rfl | fail) ?_; simp [hne, hne1, hnej, h2j, h1j, hj2, hj1, hx0, hx1, hx2, hjx, hjx2, zaj, frzS, zaz, frzN, frz1, zay, zax, St.frz, St.frzS, frzS, fv, zaz, za5, za8, zaF, zat, zaj, del, frz, za9])
  | (refine CallP.okL (hln _ (by first | omega | (simp; done) | (simp; omega) | fail)) (by first | (simp [hne, hne1, hnej, h2j, h1j, hj2, hj1, hx0, hx1, hx2, hjx, hjx2, zaj, frzS, zaz, zaa, getK, zab, zac, zak, zaJ, del]; done) | fail) (by rfl) (by rfl) ?_; (try simp [hne, hne1, hnej, h2j, h1j, hj2, hj1, hx0, hx1, hx2, hjx, hjx2, zaj, frzS, zaz, zdf, del]))
  | fail)
   (refine EndW.here ?_; (first | (refine EndOK.fin (.inr rfl) ?_) | (refine EndOK.fin (.inl rfl) ?_)); simp [zaL, zag, Tryz.results57, hne, hne1, hnej, h2j, h1j, hj2, hj1, hx0, hx1, hx2, hj, h2]; refine FinOK.cut [(2, zce), (1, zdo (nx + 2) T), (nx + 2, zdn T)] (nx + 3) (by simp [zaa, getK, zab, zac, Ob.under, D.under, zad, zae, hne, hne1, hnej, h2j, h1j, hj2, hj1, hx0, hx1, hx2, hj, h2] <;> omega) (by simp [D.under]) (by simp [hn]) ?_; try simp)
   exact ⟨rfl, nx + 2, by omega, by omega, by omega, rfl⟩
  | true =>
   obtain rfl : w = [100, 117, 101] := by
    by_cases hw : w = [100, 117, 101]
    ·exact hw
    ·exact absurd ⟨rfl, hw⟩ hc1
   (refine RetX.of_bodyW Tryz.func57 rfl (by simp) fun Γ hn hpan => ?_); simp only [entry, List.zipIdx_cons, List.zipIdx_nil, List.map_cons, List.map_nil, Nat.zero_add, Tryz.ntmps57]
   skip
   repeat' (first
  | (refine zdy ?_; simp [hne, hne1, hnej, h2j, h1j, hj2, hj1, hx0, hx1, hx2, hjx, hjx2, zaj, frzS, zaz])
  | (refine zel rfl rfl (by decide +kernel) (by first | (simp [hn]; done) | (simp [hn]; omega) | fail) fun C k hC hk => ?_; simp [hne, hne1, hnej, h2j, h1j, hj2, hj1, hx0, hx1, hx2, hjx, hjx2, zaj, frzS, zaz])
  | (refine zaf ?_; simp [hne, hne1, hnej, h2j, h1j, hj2, hj1, hx0, hx1, hx2, hjx, hjx2, zaj, frzS, zaz])
  | (refine zbt rfl ?_; simp [hne, hne1, hnej, h2j, h1j, hj2, hj1, hx0, hx1, hx2, hjx, hjx2, zaj, frzS, zaz])
  | (refine zcc rfl ?_; simp [hne, hne1, hnej, h2j, h1j, hj2, hj1, hx0, hx1, hx2, hjx, hjx2, zaj, frzS, zaz])
  | (refine ziX rfl ?_; simp [hne, hne1, hnej, h2j, h1j, hj2, hj1, hx0, hx1, hx2, hjx, hjx2, zaj, frzS, zaz])
  | (refine zal ?_; simp [hne, hne1, hnej, h2j, h1j, hj2, hj1, hx0, hx1, hx2, hjx, hjx2, zaj, frzS, zaz])
  | (refine zah ?_; simp [hne, hne1, hnej, h2j, h1j, hj2, hj1, hx0, hx1, hx2, hjx, hjx2, zaj, frzS, zaz])
  | (refine zai ?_; simp [hne, hne1, hnej, h2j, h1j, hj2, hj1, hx0, hx1, hx2, hjx, hjx2, zaj, frzS, zaz])
  | (refine zbQ (hC _ (zcr [2] (nx) (by simp <;> omega) (by simp <;> omega) (by apply Exists.intro; apply And.intro; (focus (repeat' (first | exact KF.nil | exact KL.nil | apply KF.cons | apply KL.cons 0 rfl | apply KL.cons 1 rfl | apply KL.cons 2 rfl | apply KL.cons 3 rfl | apply KL.cons 4 rfl | apply KL.cons 5 rfl | apply KL.cons 6 rfl | apply KL.cons 7 rfl | apply KL.cons 8 rfl | apply KL.cons 9 rfl))); kernel_rfl))) (hk _ ?_); clear hC hk C k; simp only [zao])
  | (refine zb6 rfl (by kernel_rfl) (by first | (simp [hn]; done) | (simp [hn]; omega) | fail) fun C k hC hk => ?_; simp [hne, hne1, hnej, h2j, h1j, hj2, hj1, hx0, hx1, hx2, hjx, hjx2, zaj, frzS, zaz])
  | (refine zhs rfl (by simp [hne, hne1, hnej, h2j, h1j, hj2, hj1, hx0, hx1, hx2, hjx, hjx2, zaj, frzS, zaz]) (fun hc => ?_) (fun hc => ?_) <;> (try simp [hne, hne1, hnej, h2j, h1j, hj2, hj1, hx0, hx1, hx2, hjx, hjx2, zaj, frzS, zaz] at hc) <;> (try (exfalso; omega)) <;> (try simp [hne, hne1, hnej, h2j, h1j, hj2, hj1, hx0, hx1, hx2, hjx, hjx2, zaj, frzS, zaz]))
  | (refine CallV.fun_ (hno) (by first | rfl | fail) (by first | (simp [hne, hne1, hnej, h2j, h1j, hj2, hj1, hx0, hx1, hx2, hjx, hjx2, zaj, frzS, zaz]; done) | (simp [hne, hne1, hnej, h2j, h1j, hj2, hj1, hx0, hx1, hx2, hjx, hjx2, zaj, frzS, zaz]; rfl) | fail) ?_ <;> (try simp [hne, hne1, hnej, h2j, h1j, hj2, hj1, hx0, hx1, hx2, hjx, hjx2, zaj, frzS, zaz]))
  | (refine CallV.fun_ (hsm) (by first | rfl | fail) (by first | (simp [hne, hne1, hnej, h2j, h1j, hj2, hj1, hx0, hx1, hx2, hjx, hjx2, zaj, frzS, zaz]; done) | (simp [hne, hne1, hnej, h2j, h1j, hj2, hj1, hx0, hx1, hx2, hjx, hjx2, zaj, frzS, zaz]; rfl) | fail) ?_ <;> (try simp [hne, hne1, hnej, h2j, h1j, hj2, hj1, hx0, hx1, hx2, hjx, hjx2, zaj, frzS, zaz]))
  | (refine CallV.fun_ (hsh) (by first | rfl | fail) (by first | (simp [hne, hne1, hnej, h2j, h1j, hj2, hj1, hx0, hx1, hx2, hjx, hjx2, zaj, frzS, zaz]; done) | (simp [hne, hne1, hnej, h2j, h1j, hj2, hj1, hx0, hx1, hx2, hjx, hjx2, zaj, frzS, zaz]; rfl) | fail) ?_ <;> (try simp [hne, hne1, hnej, h2j, h1j, hj2, hj1, hx0, hx1, hx2, hjx, hjx2, zaj, frzS, zaz]))
  | (refine zaq (by first | rfl | fail) ?_; simp [hne, hne1, hnej, h2j, h1j, hj2, hj1, hx0, hx1, hx2, hjx, hjx2, zaj, frzS, zaz, frzN, frz1, zay, zax, St.frz, St.frzS, frzS, fv, zaz, za5, za8, zaF, zat, zaj, del, frz, za9])
  | (refine CallP.okL (hln _ (by first | omega | (simp; done) | (simp; omega) | fail)) (by first | (simp [hne, hne1, hnej, h2j, h1j, hj2, hj1, hx0, hx1, hx2, hjx, hjx2, zaj, frzS, zaz, zaa, getK, zab, zac, zak, zaJ, del]; done) | fail) (by rfl) (by rfl) ?_; (try simp [hne, hne1, hnej, h2j, h1j, hj2, hj1, hx0, hx1, hx2, hjx, hjx2, zaj, frzS, zaz, zdf, del]))
  | fail)
   (refine EndW.here ?_; (first | (refine EndOK.fin (.inr rfl) ?_) | (refine EndOK.fin (.inl rfl) ?_)); simp [zaL, zag, Tryz.results57, hne, hne1, hnej, h2j, h1j, hj2, hj1, hx0, hx1, hx2, hj, h2]; refine FinOK.cut [(2, zce), (1, zdo (nx + 2) T), (nx + 2, zdn T)] (nx + 3) (by simp [zaa, getK, zab, zac, Ob.under, D.under, zad, zae, hne, hne1, hnej, h2j, h1j, hj2, hj1, hx0, hx1, hx2, hj, h2] <;> omega) (by simp [D.under]) (by simp [hn]) ?_; try simp)
   exact ⟨rfl, nx + 2, by omega, by omega, by omega, rfl⟩
/-- A call of one of the parser's functions, both ways. -/
theorem _root_.Go.VL.CallP.pp {P : Program} {Γ : Ctx} {s : St} {k : St → Prop} {dst : Option Tmp} {fop : Operand} {args : List Operand} {f caps} {ds : List D} {α : Type} {l : List Tok} {i : Nat} {ob : Ob} {val : α → D} {r : PR α}
  (hret : RetX P f ds [(i, ob)] s.next (PPost l i s.next val r)) (hj : getK s.obs i = some ob) (hf : zau (opd s fop) = some (f, caps)) (hc : zam P f = true) (hds : args.map (opd s) ++ caps = ds) (hp : zaH dst s)
  (hk : ∀ a q, r = .ok a q → k (({ s with obs := del s.obs i ++ [(i, pOb l q)], next := s.next } : St).put dst (val a)))
  (hx : ∀ pos e q, r = .stop pos e → ∃ s2, Wk Γ { s with obs := del s.obs i ++ [(i, pOb l q)], next := s.next } s2 ∧ Γ.pan (chP pos e) s2) : CallP P Γ fop args dst s k :=
 CallP.x1 hret hj hf hc hds hp (fun d o1 nx' _ h => by
  cases r with
  | ok a q => obtain ⟨h1, h2, h3⟩ := h; cases h1; subst h2; subst h3; exact hk a q rfl
  | stop pos e => obtain ⟨h1, _⟩ := h; cases h1) (fun ch o1 nx' _ h => by
  cases r with
  | ok a q => obtain ⟨h1, _⟩ := h; cases h1
  | stop pos e => obtain ⟨h1, ⟨ob', ⟨q, rfl⟩, h2⟩, h3⟩ := h; cases h1; subst h2; subst h3; exact hx pos e q rfl)
abbrev kbD (x : Int × Bool) : D := .tup [.u (.int .i64 x.1), .u (.bool x.2)]
theorem zo4 (l : List Tok) (p : Nat) (i nx : Nat) (hi : i < nx) (hp : p < l.length) (hl : TokOK l) :
  RetX Tryz.prog 78 [.ptr i 0] [(i, pOb l p)] nx (PPost l i nx kbD (zgn l p)) := by
 have hne := zaB hi
 have hll := hl.len
 generalize hR : zgn l p = R
 rw [zgn] at hR
 (refine RetX.of_bodyW Tryz.func78 rfl (by simp) fun Γ hn hpan => ?_); simp only [entry, List.zipIdx_cons, List.zipIdx_nil, List.map_cons, List.map_nil, Nat.zero_add, Tryz.ntmps78]
 repeat' (first
  | (refine zaf ?_; simp [hne])
  | (refine zal ?_; simp [hne])
  | (refine zah ?_; simp [hne])
  | (refine zaq (by first | rfl | fail) ?_; simp [hne, frzN, frz1, zay, zax, St.frz, St.frzS, frzS, fv, zaz, za5, za8, zaF, zat, zaj, del, frz, za9])
  | fail)
 (refine CallP.pp (zeq hl [99, 105, 114, 99, 108, 101] (q := p) (i := i) (by first | omega | (simp; done) | (simp; omega) | fail) hp) (by first | (simp [hi, hne, Nat.add_assoc, zaa, getK, zab, zac]; done) | fail) (by rfl) (by first | assumption | (simp; done) | fail) (by rfl) (by simp) (fun v1 q1 h1 => ?_) (fun pos e q' h1 => ⟨_, Wk.refl _, ?_⟩); rotate_left 1; (focus (rw [h1, PR.zaN] at hR; (refine hpan _ _ ⟨{ n := _, env := [], obs := [(i, pOb l q')], next := nx }, (Wk.cut rfl (by simp [hn]) (by simp [wkO, zaa, getK, zab, zac, Ob.under, D.under, zad, zae, hi, hne, Nat.add_assoc, zab, zac, zaa, getK]) (by simp [wkU, zan, zaa, getK, D.under, hi, hne, Nat.add_assoc, zab, zac, zaa, getK]) (by simp [wkE, zan, zaa, getK, hi, hne, Nat.add_assoc, zab, zac, zaa, getK])), by simp [hn], ?_⟩; try simp); exact PPost.zaw hR.symm)); rw [h1, PR.zav] at hR; (try simp [hi, hne, Nat.add_assoc]))
 obtain ⟨_, g1⟩ := za1 hl _ h1 hp
 have hh1 := fun nx' (h : nx ≤ nx') => zbg l q1 [114, 111, 116, 97, 116, 105, 110, 103] i nx' (by omega) g1 hl.len
 have hh2 := fun nx' (h : nx ≤ nx') => zbg l q1 [115, 97, 118, 105, 110, 103] i nx' (by omega) g1 hl.len
 by_cases c1 : isB l q1 [114, 111, 116, 97, 116, 105, 110, 103] = true
 ·have g2 := zbf hl c1
  rw [if_pos c1] at hR
  simp only [c1, if_true] at hh1
  repeat' (first
  | (refine zaf ?_; simp [hne, del, Nat.add_assoc])
  | (refine zal ?_; simp [hne, del, Nat.add_assoc])
  | (refine zah ?_; simp [hne, del, Nat.add_assoc])
  | (refine zai ?_; simp [hne, del, Nat.add_assoc])
  | (refine CallP.ok1 (hh1 _ (by first | omega | (simp; done) | (simp; omega) | fail)) (by first | (simp [hne, del, Nat.add_assoc, zaa, getK, zab, zac]; done) | fail) (by rfl) (by rfl) ?_; (try simp [hne, del, Nat.add_assoc]))
  | (refine zaq (by first | rfl | fail) ?_; simp [hne, del, Nat.add_assoc, frzN, frz1, zay, zax, St.frz, St.frzS, frzS, fv, zaz, za5, za8, zaF, zat, zaj, del, frz, za9])
  | fail)
  (refine CallP.pp (zeq hl [59] (q := q1 + 1) (i := i) (by first | omega | (simp; done) | (simp; omega) | fail) g2) (by first | (simp [hi, hne, Nat.add_assoc, zaa, getK, zab, zac]; done) | fail) (by rfl) (by first | assumption | (simp; done) | fail) (by rfl) (by simp) (fun v2 q2 h2 => ?_) (fun pos e q' h2 => ⟨_, Wk.refl _, ?_⟩); rotate_left 1; (focus (rw [h2, PR.zaN] at hR; (refine hpan _ _ ⟨{ n := _, env := [], obs := [(i, pOb l q')], next := nx }, (Wk.cut rfl (by simp [hn]) (by simp [wkO, zaa, getK, zab, zac, Ob.under, D.under, zad, zae, hi, hne, Nat.add_assoc, zab, zac, zaa, getK]) (by simp [wkU, zan, zaa, getK, D.under, hi, hne, Nat.add_assoc, zab, zac, zaa, getK]) (by simp [wkE, zan, zaa, getK, hi, hne, Nat.add_assoc, zab, zac, zaa, getK])), by simp [hn], ?_⟩; try simp); exact PPost.zaw hR.symm)); rw [h2, PR.zav] at hR; (try simp [hi, hne, Nat.add_assoc]))
  repeat' (first
  | (refine zaf ?_; simp [hne, del, Nat.add_assoc])
  | (refine zal ?_; simp [hne, del, Nat.add_assoc])
  | (refine zah ?_; simp [hne, del, Nat.add_assoc])
  | (refine zar ?_; simp only [zao])
  | fail)
  (refine EndW.here ?_; (first | (refine EndOK.fin (.inr rfl) ?_) | (refine EndOK.fin (.inl rfl) ?_)); simp [zaL, zag, Tryz.results78, hne, hi]; refine FinOK.cut [(i, pOb l q2)] (nx) (by simp [zaa, getK, zab, zac, Ob.under, D.under, zad, zae, hne, hi] <;> omega) (by simp [D.under]) (by simp [hn]) ?_; try simp)
  exact PPost.zcw hR.symm rfl rfl
 ·rw [if_neg c1] at hR
  simp only [c1, Bool.false_eq_true, if_false] at hh1
  by_cases c2 : isB l q1 [115, 97, 118, 105, 110, 103] = true
  ·have g2 := zbf hl c2
   rw [if_pos c2] at hR
   simp only [c2, if_true] at hh2
   repeat' (first
  | (refine zaf ?_; simp [hne, del, Nat.add_assoc])
  | (refine zal ?_; simp [hne, del, Nat.add_assoc])
  | (refine zah ?_; simp [hne, del, Nat.add_assoc])
  | (refine zai ?_; simp [hne, del, Nat.add_assoc])
  | (refine CallP.ok1 (hh1 _ (by first | omega | (simp; done) | (simp; omega) | fail)) (by first | (simp [hne, del, Nat.add_assoc, zaa, getK, zab, zac]; done) | fail) (by rfl) (by rfl) ?_; (try simp [hne, del, Nat.add_assoc]))
  | (refine CallP.ok1 (hh2 _ (by first | omega | (simp; done) | (simp; omega) | fail)) (by first | (simp [hne, del, Nat.add_assoc, zaa, getK, zab, zac]; done) | fail) (by rfl) (by rfl) ?_; (try simp [hne, del, Nat.add_assoc]))
  | (refine zaq (by first | rfl | fail) ?_; simp [hne, del, Nat.add_assoc, frzN, frz1, zay, zax, St.frz, St.frzS, frzS, fv, zaz, za5, za8, zaF, zat, zaj, del, frz, za9])
  | fail)
   (refine CallP.pp (zeq hl [59] (q := q1 + 1) (i := i) (by first | omega | (simp; done) | (simp; omega) | fail) g2) (by first | (simp [hi, hne, Nat.add_assoc, zaa, getK, zab, zac]; done) | fail) (by rfl) (by first | assumption | (simp; done) | fail) (by rfl) (by simp) (fun v2 q2 h2 => ?_) (fun pos e q' h2 => ⟨_, Wk.refl _, ?_⟩); rotate_left 1; (focus (rw [h2, PR.zaN] at hR; (refine hpan _ _ ⟨{ n := _, env := [], obs := [(i, pOb l q')], next := nx }, (Wk.cut rfl (by simp [hn]) (by simp [wkO, zaa, getK, zab, zac, Ob.under, D.under, zad, zae, hi, hne, Nat.add_assoc, zab, zac, zaa, getK]) (by simp [wkU, zan, zaa, getK, D.under, hi, hne, Nat.add_assoc, zab, zac, zaa, getK]) (by simp [wkE, zan, zaa, getK, hi, hne, Nat.add_assoc, zab, zac, zaa, getK])), by simp [hn], ?_⟩; try simp); exact PPost.zaw hR.symm)); rw [h2, PR.zav] at hR; (try simp [hi, hne, Nat.add_assoc]))
   repeat' (first
  | (refine zaf ?_; simp [hne, del, Nat.add_assoc])
  | (refine zal ?_; simp [hne, del, Nat.add_assoc])
  | (refine zah ?_; simp [hne, del, Nat.add_assoc])
  | (refine zar ?_; simp only [zao])
  | fail)
   (refine EndW.here ?_; (first | (refine EndOK.fin (.inr rfl) ?_) | (refine EndOK.fin (.inl rfl) ?_)); simp [zaL, zag, Tryz.results78, hne, hi]; refine FinOK.cut [(i, pOb l q2)] (nx) (by simp [zaa, getK, zab, zac, Ob.under, D.under, zad, zae, hne, hi] <;> omega) (by simp [D.under]) (by simp [hn]) ?_; try simp)
   exact PPost.zcw hR.symm rfl rfl
  ·rw [if_neg c2] at hR
   simp only [c2, Bool.false_eq_true, if_false] at hh2
   repeat' (first
  | (refine zaf ?_; simp [hne, del, Nat.add_assoc])
  | (refine zal ?_; simp [hne, del, Nat.add_assoc])
  | (refine zah ?_; simp [hne, del, Nat.add_assoc])
  | (refine zai ?_; simp [hne, del, Nat.add_assoc])
  | (refine zap ?_; simp only [zao])
  | (refine CallP.ok1 (hh1 _ (by first | omega | (simp; done) | (simp; omega) | fail)) (by first | (simp [hne, del, Nat.add_assoc, zaa, getK, zab, zac]; done) | fail) (by rfl) (by rfl) ?_; (try simp [hne, del, Nat.add_assoc]))
  | (refine CallP.ok1 (hh2 _ (by first | omega | (simp; done) | (simp; omega) | fail)) (by first | (simp [hne, del, Nat.add_assoc, zaa, getK, zab, zac]; done) | fail) (by rfl) (by rfl) ?_; (try simp [hne, del, Nat.add_assoc]))
  | (refine zaq (by first | rfl | fail) ?_; simp [hne, del, Nat.add_assoc, frzN, frz1, zay, zax, St.frz, St.frzS, frzS, fv, zaz, za5, za8, zaF, zat, zaj, del, frz, za9])
  | fail)
   (refine CallP.pp (zeq hl [98, 105, 100, 100, 105, 110, 103] (q := q1) (i := i) (by first | omega | (simp; done) | (simp; omega) | fail) g1) (by first | (simp [hi, hne, Nat.add_assoc, zaa, getK, zab, zac]; done) | fail) (by rfl) (by first | assumption | (simp; done) | fail) (by rfl) (by simp) (fun v2 q2 h2 => ?_) (fun pos e q' h2 => ⟨_, Wk.refl _, ?_⟩); rotate_left 1; (focus (rw [h2, PR.zaN] at hR; (refine hpan _ _ ⟨{ n := _, env := [], obs := [(i, pOb l q')], next := nx }, (Wk.cut rfl (by simp [hn]) (by simp [wkO, zaa, getK, zab, zac, Ob.under, D.under, zad, zae, hi, hne, Nat.add_assoc, zab, zac, zaa, getK]) (by simp [wkU, zan, zaa, getK, D.under, hi, hne, Nat.add_assoc, zab, zac, zaa, getK]) (by simp [wkE, zan, zaa, getK, hi, hne, Nat.add_assoc, zab, zac, zaa, getK])), by simp [hn], ?_⟩; try simp); exact PPost.zaw hR.symm)); rw [h2, PR.zav] at hR; (try simp [hi, hne, Nat.add_assoc]))
   obtain ⟨_, g2⟩ := za1 hl _ h2 g1
   have hh3 := fun nx' (h : nx ≤ nx') => zbg l q2 [115, 101, 97, 108, 101, 100] i nx' (by omega) g2 hl.len
   by_cases c3 : isB l q2 [115, 101, 97, 108, 101, 100] = true
   ·have g3 := zbf hl c3
    rw [if_pos c3] at hR
    simp only [c3, if_true] at hh3
    repeat' (first
  | (refine zaf ?_; simp [hne, del, Nat.add_assoc])
  | (refine zal ?_; simp [hne, del, Nat.add_assoc])
  | (refine zah ?_; simp [hne, del, Nat.add_assoc])
  | (refine CallP.ok1 (hh3 _ (by first | omega | (simp; done) | (simp; omega) | fail)) (by first | (simp [hne, del, Nat.add_assoc, zaa, getK, zab, zac]; done) | fail) (by rfl) (by rfl) ?_; (try simp [hne, del, Nat.add_assoc]))
  | (refine zaq (by first | rfl | fail) ?_; simp [hne, del, Nat.add_assoc, frzN, frz1, zay, zax, St.frz, St.frzS, frzS, fv, zaz, za5, za8, zaF, zat, zaj, del, frz, za9])
  | fail)
    (refine CallP.pp (zeq hl [59] (q := q2 + 1) (i := i) (by first | omega | (simp; done) | (simp; omega) | fail) g3) (by first | (simp [hi, hne, Nat.add_assoc, zaa, getK, zab, zac]; done) | fail) (by rfl) (by first | assumption | (simp; done) | fail) (by rfl) (by simp) (fun v3 q3 h3 => ?_) (fun pos e q' h3 => ⟨_, Wk.refl _, ?_⟩); rotate_left 1; (focus (rw [h3, PR.zaN] at hR; (refine hpan _ _ ⟨{ n := _, env := [], obs := [(i, pOb l q')], next := nx }, (Wk.cut rfl (by simp [hn]) (by simp [wkO, zaa, getK, zab, zac, Ob.under, D.under, zad, zae, hi, hne, Nat.add_assoc, zab, zac, zaa, getK]) (by simp [wkU, zan, zaa, getK, D.under, hi, hne, Nat.add_assoc, zab, zac, zaa, getK]) (by simp [wkE, zan, zaa, getK, hi, hne, Nat.add_assoc, zab, zac, zaa, getK])), by simp [hn], ?_⟩; try simp); exact PPost.zaw hR.symm)); rw [h3, PR.zav] at hR; (try simp [hi, hne, Nat.add_assoc]))
    repeat' (first
  | (refine zaf ?_; simp [hne, del, Nat.add_assoc])
  | (refine zal ?_; simp [hne, del, Nat.add_assoc])
  | (refine zah ?_; simp [hne, del, Nat.add_assoc])
  | (refine zar ?_; simp only [zao])
  | fail)
    (refine EndW.here ?_; (first | (refine EndOK.fin (.inr rfl) ?_) | (refine EndOK.fin (.inl rfl) ?_)); simp [zaL, zag, Tryz.results78, hne, hi]; refine FinOK.cut [(i, pOb l q3)] (nx) (by simp [zaa, getK, zab, zac, Ob.under, D.under, zad, zae, hne, hi] <;> omega) (by simp [D.under]) (by simp [hn]) ?_; try simp)
    exact PPost.zcw hR.symm rfl rfl
   ·rw [if_neg c3] at hR
    simp only [c3, Bool.false_eq_true, if_false] at hh3
    repeat' (first
  | (refine zaf ?_; simp [hne, del, Nat.add_assoc])
  | (refine zal ?_; simp [hne, del, Nat.add_assoc])
  | (refine zah ?_; simp [hne, del, Nat.add_assoc])
  | (refine CallP.ok1 (hh3 _ (by first | omega | (simp; done) | (simp; omega) | fail)) (by first | (simp [hne, del, Nat.add_assoc, zaa, getK, zab, zac]; done) | fail) (by rfl) (by rfl) ?_; (try simp [hne, del, Nat.add_assoc]))
  | (refine zaq (by first | rfl | fail) ?_; simp [hne, del, Nat.add_assoc, frzN, frz1, zay, zax, St.frz, St.frzS, frzS, fv, zaz, za5, za8, zaF, zat, zaj, del, frz, za9])
  | fail)
    (refine CallP.pp (zeq hl [59] (q := q2) (i := i) (by first | omega | (simp; done) | (simp; omega) | fail) g2) (by first | (simp [hi, hne, Nat.add_assoc, zaa, getK, zab, zac]; done) | fail) (by rfl) (by first | assumption | (simp; done) | fail) (by rfl) (by simp) (fun v3 q3 h3 => ?_) (fun pos e q' h3 => ⟨_, Wk.refl _, ?_⟩); rotate_left 1; (focus (rw [h3, PR.zaN] at hR; (refine hpan _ _ ⟨{ n := _, env := [], obs := [(i, pOb l q')], next := nx }, (Wk.cut rfl (by simp [hn]) (by simp [wkO, zaa, getK, zab, zac, Ob.under, D.under, zad, zae, hi, hne, Nat.add_assoc, zab, zac, zaa, getK]) (by simp [wkU, zan, zaa, getK, D.under, hi, hne, Nat.add_assoc, zab, zac, zaa, getK]) (by simp [wkE, zan, zaa, getK, hi, hne, Nat.add_assoc, zab, zac, zaa, getK])), by simp [hn], ?_⟩; try simp); exact PPost.zaw hR.symm)); rw [h3, PR.zav] at hR; (try simp [hi, hne, Nat.add_assoc]))
    repeat' (first
  | (refine zaf ?_; simp [hne, del, Nat.add_assoc])
  | (refine zal ?_; simp [hne, del, Nat.add_assoc])
  | (refine zah ?_; simp [hne, del, Nat.add_assoc])
  | (refine zar ?_; simp only [zao])
  | fail)
    (refine EndW.here ?_; (first | (refine EndOK.fin (.inr rfl) ?_) | (refine EndOK.fin (.inl rfl) ?_)); simp [zaL, zag, Tryz.results78, hne, hi]; refine FinOK.cut [(i, pOb l q3)] (nx) (by simp [zaa, getK, zab, zac, Ob.under, D.under, zad, zae, hne, hi] <;> omega) (by simp [D.under]) (by simp [hn]) ?_; try simp)
    exact PPost.zcw hR.symm rfl rfl
theorem zo6 {l : List Tok} (hl : TokOK l) {p q : Nat} {x : Int × Bool} (h : zgn l p = .ok x q) (hp : p < l.length) : p ≤ q ∧ q < l.length := by
 unfold zgn at h
 obtain ⟨_, r1, h1, h⟩ := PR.zaI h
 have g1 := za1 hl _ h1 hp
 split at h
 ·rename_i hb
  obtain ⟨_, r2, h2, h⟩ := PR.zaI h
  have g2 := za1 hl _ h2 (zbf hl hb)
  cases h
  exact ⟨by omega, g2.2⟩
 ·split at h
  ·rename_i hb
   obtain ⟨_, r2, h2, h⟩ := PR.zaI h
   have g2 := za1 hl _ h2 (zbf hl hb)
   cases h
   exact ⟨by omega, g2.2⟩
  ·obtain ⟨_, r2, h2, h⟩ := PR.zaI h
   have g2 := za1 hl _ h2 g1.2
   split at h
   ·rename_i hb
    obtain ⟨_, r3, h3, h⟩ := PR.zaI h
    have g3 := za1 hl _ h3 (zbf hl hb)
    cases h
    exact ⟨by omega, g3.2⟩
   ·obtain ⟨_, r3, h3, h⟩ := PR.zaI h
    have g3 := za1 hl _ h3 g2.2
    cases h
    exact ⟨by omega, g3.2⟩
theorem zfR : Fun Tryz.prog 60 [] (· = .u (.sl (ordersW.map fun w => [.str w]))) := by
 simp only [ordersW, List.map_cons, List.map_nil]
 (refine Fun.of_bodyW Tryz.func60 rfl (by simp) fun Γ hn => ?_); simp only [entry, List.zipIdx_cons, List.zipIdx_nil, List.map_cons, List.map_nil, Nat.zero_add, Tryz.ntmps60]
 repeat' (first
  | (refine zaf ?_; simp [zbq, zbo])
  | (refine zal ?_; simp [zbq, zbo])
  | (refine zah ?_; simp [zbq, zbo])
  | (refine zar ?_; simp only [zao])
  | fail)
 (refine EndW.frzN 1 ?_; simp [frzN, frz1, zay, zax, St.frz, St.frzS, frzS, fv, zaz, za5, za8, zaF, zat, zaj, del, frz, za9])
 refine EndW.here ?_
 (refine EndOK.val (.inr rfl) ?_; simp [zaL, zag, zas, Tryz.results60])
/-- The first of words that stands at a place is read. -/
def atW (l : List Tok) (q : Nat) (ws : List W8) : Option Nat := ws.findIdx? fun w => isB l q w
theorem zmp (l : List Tok) (q : Nat) (ws : List W8) (i nx : Nat) (hi : i < nx) (hq : q < l.length) (hl : TokOK l) :
  RetX Tryz.prog 129 [.u (.sl (ws.map fun w => [.str w])), .bnd (.func 127) [.ptr i 0]] [(i, pOb l q)] nx
   (fun r o n => r = .val (match atW l q ws with | some j => ziD j | none => ziD (-1)) ∧ o = [(i, pOb l (if (atW l q ws).isSome then q + 1 else q))] ∧ n = nx) := by
 have hne := zaB hi
 generalize hA : atW l q ws = A
 (refine RetX.of_bodyW Tryz.func129 rfl (by simp) fun Γ hn hpan => ?_); simp only [entry, List.zipIdx_cons, List.zipIdx_nil, List.map_cons, List.map_nil, Nat.zero_add, Tryz.ntmps129]
 refine ziV (x := 0) rfl fun hll => ?_
 simp at hll
 repeat' (first
  | (refine zaf ?_; simp)
  | (refine zal ?_; simp)
  | (refine zah ?_; simp)
  | (refine zaA ?_; simp)
  | fail)
 refine zdY (α := { j : Nat // j ≤ ws.length ∧ ∀ w ∈ ws.take j, isB l q w = false }) [0, 1, 7] (fun x => [(8, .u (.int .i64 x.1))]) (fun x => [(i, pOb l q)]) nx (fun x => ws.length - x.1) ⟨0, by omega, by simp⟩ ?_ ?_
 ·exact (Wk.cut rfl (by simp [hn, St.lp]) (by simp [wkO, St.lp, zaa, getK, Ob.under, D.under, zad, zae, hi]) (by simp [wkU, St.lp, zan, zaa, getK, D.under, hi]) (by simp [wkE, St.lp, zan, zaa, getK, hi] <;> (try (intros; simp_all; done)) <;> (try (intros; omega)) <;> (try grind)))
 rintro ⟨j, h1, h2⟩
 simp [St.lp, St.only, zan, zaa, getK]
 rcases hx : ws[j]? with _ | w
 ·have hge : ws.length ≤ j := by simpa using hx
  rw [List.take_of_length_le hge] at h2
  have hn0 : atW l q ws = none := by
   unfold atW
   rw [List.findIdx?_eq_none_iff]
   exact h2
  rw [hn0] at hA
  subst hA
  repeat' (first
  | (refine zaf ?_; simp [hx])
  | (refine zal ?_; simp [hx])
  | (refine ⟨by omega, ?_⟩)
  | (refine zah ?_; simp [hx])
  | (refine zar ?_; simp only [zao])
  | (refine zbR ?_; simp [zao])
  | (intro hc <;> (try (exfalso; omega)))
  | fail)
  (refine EndW.here ?_; (first | (refine EndOK.fin (.inr rfl) ?_) | (refine EndOK.fin (.inl rfl) ?_)); simp [zaL, zag, Tryz.results129]; refine FinOK.here (by simp) ?_; try simp)
 ·have hlt : j < ws.length := (List.getElem?_eq_some_iff.1 hx).1
  have hh := zbg l q w i nx hi hq hl.len
  cases hb : isB l q w with
  | false =>
   rw [hb, if_neg (by simp)] at hh
   repeat' (first
  | (refine zaf ?_; simp [hx])
  | (refine zal ?_; simp [hx])
  | (refine zah ?_; simp [hx])
  | (refine zap ?_; simp only [zao])
  | (refine ⟨?_, by omega⟩)
  | (intro hc <;> (try (exfalso; omega)))
  | fail)
   refine CallP.bok hh (by simp [zaa, getK]) rfl (by first | assumption | simp) rfl (by simp) ?_
   repeat' (first
  | (refine zaf ?_; simp [hx])
  | (refine zal ?_; simp [hx])
  | (refine ⟨by omega, ?_⟩)
  | (refine zai ?_; simp [hx])
  | (refine zaC ?_; simp [hx])
  | (refine zap ?_; simp only [zao])
  | fail)
   refine LoopW.next ⟨j + 1, by omega, zby hx h2 hb⟩ (by simp; omega) ?_
   exact (Wk.cut rfl (by simp [hn, St.lp]) (by simp [wkO, St.lp, zaa, getK, Ob.under, D.under, zad, zae, hi, zab, zac, zaa, getK]) (by simp [wkU, St.lp, zan, zaa, getK, D.under, hi, zab, zac, zaa, getK]) (by simp [wkE, St.lp, zan, zaa, getK, hi, zab, zac, zaa, getK] <;> (try (intros; simp_all; done)) <;> (try (intros; omega)) <;> (try grind)))
  | true =>
   rw [hb, if_pos rfl] at hh
   have hn0 : atW l q ws = some j := by
    unfold atW
    rw [List.findIdx?_eq_some_iff_getElem]
    obtain ⟨h3, h4⟩ := List.getElem?_eq_some_iff.1 hx
    refine ⟨h3, by rw [h4]; exact hb, fun k hk => ?_⟩
    have := h2 ws[k] (by rw [List.mem_take_iff_getElem]; exact ⟨k, by omega, rfl⟩)
    simp [this]
   rw [hn0] at hA
   subst hA
   repeat' (first
  | (refine zaf ?_; simp [hx])
  | (refine zal ?_; simp [hx])
  | (refine zah ?_; simp [hx])
  | (refine zap ?_; simp only [zao])
  | (refine ⟨?_, by omega⟩)
  | (intro hc <;> (try (exfalso; omega)))
  | fail)
   refine CallP.bok hh (by simp [zaa, getK]) rfl (by first | assumption | simp) rfl (by simp) ?_
   repeat' (first
  | (refine zaf ?_; simp [hx])
  | (refine zal ?_; simp [hx])
  | (refine zah ?_; simp [hx])
  | (refine zai ?_; simp [hx])
  | (refine zar ?_; simp only [zao])
  | fail)
   (refine EndW.here ?_; (first | (refine EndOK.fin (.inr rfl) ?_) | (refine EndOK.fin (.inl rfl) ?_)); simp [zaL, zag, Tryz.results129]; refine FinOK.here (by simp) ?_; try simp)
end Go.Proofs.YthnemhfamhnfjaaGreatDoor
namespace Go.Proofs.YthnemhfamhnfjaaGreatDoor
open Go Go.VL
theorem zeB : ∀ ws : List W8, (zbC ws).length ≤ (ws.map fun w => w.length + 1).sum
 | [] => by simp [zbC, spW, zbJ]
 | [w] => by rw [zbd]; simp
 | w :: v :: l => by rw [zaV]; have := zeB (v :: l); simp at this ⊢; omega
theorem zdk {w : W8} {n : Int} {ws : List W8} (h0 : 0 ≤ n) (h1 : n ≤ 1099511627776) (h : w.length + (ws.map fun w => w.length + 1).sum ≤ 80) : (zb7 w n ws).length ≤ 100 := by
 rw [zb7]
 split
 ·simp
 ·have h2 := ziC h0 h1
  have h3 := zeB (w :: Lib.itoa n :: ws)
  rw [zbP]
  simp at h3 ⊢
  omega
theorem zdK {w : W8} {e : Exp} (hw : w.length ≤ 20) (h : zaE 12 e = true) : (clauseT w e).length ≤ 60000000 := by
 rw [clauseT]
 split
 ·simp
 ·have := zcD h (Nat.le_refl _) 0
  rw [zjK]
  omega
def ziA (b : By) : W8 := zbP (if b.sld = true then [[99, 105, 114, 99, 108, 101], [98, 105, 100, 100, 105, 110, 103], [115, 101, 97, 108, 101, 100]] else [[99, 105, 114, 99, 108, 101], if b.kind = 0 then [114, 111, 116, 97, 116, 105, 110, 103] else if b.kind = 1 then [98, 105, 100, 100, 105, 110, 103] else [115, 97, 118, 105, 110, 103]])
def zhP (o : Int) : W8 := if o = 0 then [] else zbP [[111, 114, 100, 101, 114], ordersW.getD o.toNat []]
def zo0 (l : Let) : W8 := zbP [[108, 101, 116], l.name, [61], txt l.body 0]
def zfn (L : List Let) : W8 := (L.map zo0).flatten
/-- The text of bylaws, as Print writes it. -/
noncomputable def textP (b : By) : W8 := ziA b ++ zb7 [112, 101, 114, 105, 111, 100] b.period [[100, 97, 121, 115]] ++ zb7 [108, 97, 115, 116] b.last [] ++ zb7 [103, 114, 97, 99, 101] b.grace [[100, 97, 121, 115]] ++ zb7 [119, 97, 105, 116] b.wait [[100, 97, 121, 115]] ++ zhP b.order ++
 zb7 [98, 97, 99, 107, 115] b.backs [] ++ zb7 [118, 111, 105, 99, 101, 115] b.voices [[112, 101, 114], [109, 105, 108, 108, 101]] ++ zb7 [106, 117, 114, 121] b.jury [] ++ zb7 [102, 117, 110, 100] b.fund [[112, 101, 114], [109, 105, 108, 108, 101]] ++ zfn b.lets ++
 clauseT [100, 117, 101] b.due ++ clauseT [102, 105, 110, 101] b.fine ++ clauseT [112, 97, 121] b.pay ++ clauseT [99, 111, 118, 101, 114] b.cover ++ clauseT [104, 111, 108, 100] b.hold
/-- What Print returns. -/
noncomputable def printB (b : By) : W8 × Int := if zca b = true then (if 2000 < (textP b).length then ([], 6) else (textP b, 0)) else ([], 1)
theorem zg7 : ∀ (seen L : List Let), zfp seen L = true → ∀ l ∈ L, zbD l.name = true ∧ zaE 12 l.body = true
 | _, [], _, l, hl => by cases hl
 | seen, x :: r, h, l, hl => by
  rw [zfp] at h
  simp only [Bool.and_eq_true] at h
  rcases List.mem_cons.1 hl with rfl | hl
  ·exact ⟨h.1.1.1, h.1.1.2⟩
  ·exact zg7 _ r h.2 l hl
theorem zlh {l : Let} (hn : zbD l.name = true) (h : zaE 12 l.body = true) : (zo0 l).length ≤ 60000000 := by
 have h1 := zeB [[108, 101, 116], l.name, [61], txt l.body 0]
 have h2 := zcD h (Nat.le_refl _) 0
 have h3 := ziy hn
 rw [zo0, zbP]
 simp at h1 ⊢
 omega
theorem zjN : ∀ (L : List Let), (∀ l ∈ L, zbD l.name = true ∧ zaE 12 l.body = true) → (zfn L).length ≤ L.length * 60000000
 | [], _ => by simp [zfn]
 | l :: r, h => by
  have h1 := zjN r fun x hx => h x (by simp [hx])
  have h2 := zlh (h l (by simp)).1 (h l (by simp)).2
  simp only [zfn, List.map_cons, List.flatten_cons, List.length_append, List.length_cons] at h1 ⊢
  omega
theorem zmg {L : List Let} {i : Nat} {l : Let} (h : L[i]? = some l) : zfn (L.take (i + 1)) = zfn (L.take i) ++ zo0 l := by
 obtain ⟨hi, rfl⟩ := List.getElem?_eq_some_iff.1 h
 rw [List.take_succ_eq_append_getElem hi, zfn, List.map_append, List.flatten_append]
 simp [zfn]
theorem zkG {P : Program} {f : FuncId} {a c e : D} {obs nx post} (h : RetX P f [a, c, .u (.sl []), e] obs nx post) : RetX P f [a, c, .u .nil, e] obs nx post := by
 intro k own w vs hsat hhdr hown hrep
 refine h k own w vs hsat hhdr hown ⟨hrep.1, fun j d hj => ?_⟩
 match j, hj with
 | 0, hj => exact hrep.2 0 d hj
 | 1, hj => exact hrep.2 1 d hj
 | 2, hj =>
  cases hj
  have := zc4 (hrep.2 2 (.u .nil) rfl)
  rw [this]
  exact .u _ _ (.slE none 0 fun _ => rfl)
 | 3, hj => exact hrep.2 3 d hj
attribute [local simp] HS zcR zb0 evPure opd uOf zaH St.put St.at getK binD binI binS binB nilD aggD zgp zhi lookD lookR zcm Go.VL.nextD zcq zhv zhu zfX zcs mkV zdb zbj zbr mapEff zd1 zfM Key.kk shiftI arith unD convD zdH loadD cellsAt fieldAddrD fieldD indexAddrD indexD sliceD cutD lenD minmaxD nilCheckD buildD fillD zbH zcW zes setAll zcE zeJ zch zgC zcd St.add zaM zbB rowsOf zdw zcA zak zac zaa zba zcz zaR entry zbo zbq valD zb5 zcu zgh zc8 zda zbO zbG zau za2 zbm delAll effD St.effS zcM za6 zaY zcN za7 za0 zbY zaZ zaS zbZ zcH zbv zbV zbi zbT zbU zaJ mkD zbI zbs zbF zau zcf D.ids Op.operands Call.operands zbx makeIfD makeFuncD typeAssertD zhh zds zdt zgK zcn IntKind.bits zcG List.take_of_length_le List.range_succ
attribute [local irreducible] V G H HD HD2 HD4 zkk RetX zao Eff CallP CallV EndOK Fun Ret FinOK LoopI LoopW EndW
set_option maxHeartbeats 40000000 in
theorem zm6 (b : By) (hb : zca b = true) : RetX Tryz.prog 19 [.u (.agg (zbc b))] [] 0 (fun r o n => r = .val (.tup [.u (.str (printB b).1), .u (.int .i64 (printB b).2)])) := by
 have hri := zdG b
 rw [hb] at hri
 have hh := hb
 simp only [zca, zmw, zmB, Bool.and_eq_true, decide_eq_true_eq] at hh
 obtain ⟨⟨⟨⟨⟨⟨⟨⟨i1, i2⟩, i3⟩, i4⟩, i5⟩, hsl⟩, hLn⟩, hLb⟩, ⟨⟨⟨hrdue, hrfine⟩, hrpay⟩, hrcover⟩, hrhold⟩ := hh
 have hLs := zg7 [] b.lets hLb
 simp only [inB, List.any_cons, List.any_nil, Bool.or_false, Bool.not_eq_true', Bool.or_eq_false_iff, decide_eq_false_iff_not, Int.not_lt] at i1 i2 i3 i4 i5
 have hca : zam Tryz.prog 62 = true := by kernel_rfl
 have hprB : printB b = if 2000 < (textP b).length then ([], 6) else (textP b, 0) := by unfold printB; rw [if_pos hb]
 rw [hprB]
 generalize hT : textP b = TT
 obtain ⟨T0, e0⟩ : ∃ T0, T0 = ziA b := ⟨_, rfl⟩
 have m0 : T0.length ≤ 100 := by
  rw [e0, ziA, zbP]
  split
  ·decide
  ·split
   ·decide
   ·split <;> decide
 have hok : True := trivial
 clear hLb
 unfold zbc at hri ⊢
 obtain ⟨CL, hCL⟩ : ∃ CL : List D, CL = [.u (.int .i64 b.kind), .u (.int .i64 b.period), .u (.int .i64 b.grace), .u (.int .i64 b.wait), .u (.int .i64 b.last), .u (.int .i64 b.order), .u (.bool b.sld), .u (.int .i64 b.backs), .u (.int .i64 b.voices), .u (.int .i64 b.jury), .u (.int .i64 b.fund), .u (.sl (b.lets.map fun l => [.str l.name, .int .i64 l.body.op, .int .i64 l.body.n, .int .i64 l.body.unit, .str l.body.s, .sl (l.body.args.map Exp.row)])), .u (.int .i64 b.due.op), .u (.int .i64 b.due.n), .u (.int .i64 b.due.unit), .u (.str b.due.s), .u (.sl (b.due.args.map Exp.row)), .u (.int .i64 b.fine.op), .u (.int .i64 b.fine.n), .u (.int .i64 b.fine.unit), .u (.str b.fine.s), .u (.sl (b.fine.args.map Exp.row)), .u (.int .i64 b.pay.op), .u (.int .i64 b.pay.n), .u (.int .i64 b.pay.unit), .u (.str b.pay.s), .u (.sl (b.pay.args.map Exp.row)), .u (.int .i64 b.cover.op), .u (.int .i64 b.cover.n), .u (.int .i64 b.cover.unit), .u (.str b.cover.s), .u (.sl (b.cover.args.map Exp.row)), .u (.int .i64 b.hold.op), .u (.int .i64 b.hold.n), .u (.int .i64 b.hold.unit), .u (.str b.hold.s), .u (.sl (b.hold.args.map Exp.row))] := ⟨_, rfl⟩
 (refine RetX.of_bodyW Tryz.func19 rfl (by simp) fun Γ hn hpan => ?_); simp only [entry, List.zipIdx_cons, List.zipIdx_nil, List.map_cons, List.map_nil, Nat.zero_add, Tryz.ntmps19]
 apply zoi (S := { n := 118, env := [(1, .ptr 0 0), (4, .ptr 1 0), (5, .ptr 2 0), (6, .fnc (.func 55) [.ptr 2 0]), (7, .fnc (.func 57) [.ptr 2 0])], obs := [(0, .box [.u (.int .i64 b.kind), .u (.int .i64 b.period), .u (.int .i64 b.grace), .u (.int .i64 b.wait), .u (.int .i64 b.last), .u (.int .i64 b.order), .u (.bool b.sld), .u (.int .i64 b.backs), .u (.int .i64 b.voices), .u (.int .i64 b.jury), .u (.int .i64 b.fund), .u (.sl (b.lets.map fun l => [.str l.name, .int .i64 l.body.op, .int .i64 l.body.n, .int .i64 l.body.unit, .str l.body.s, .sl (l.body.args.map Exp.row)])), .u (.int .i64 b.due.op), .u (.int .i64 b.due.n), .u (.int .i64 b.due.unit), .u (.str b.due.s), .u (.sl (b.due.args.map Exp.row)), .u (.int .i64 b.fine.op), .u (.int .i64 b.fine.n), .u (.int .i64 b.fine.unit), .u (.str b.fine.s), .u (.sl (b.fine.args.map Exp.row)), .u (.int .i64 b.pay.op), .u (.int .i64 b.pay.n), .u (.int .i64 b.pay.unit), .u (.str b.pay.s), .u (.sl (b.pay.args.map Exp.row)), .u (.int .i64 b.cover.op), .u (.int .i64 b.cover.n), .u (.int .i64 b.cover.unit), .u (.str b.cover.s), .u (.sl (b.cover.args.map Exp.row)), .u (.int .i64 b.hold.op), .u (.int .i64 b.hold.n), .u (.int .i64 b.hold.unit), .u (.str b.hold.s), .u (.sl (b.hold.args.map Exp.row))]), (2, zce), (1, zdo 3 T0), (3, zdn T0)], next := 4 })
 case main =>
  intro key
  cases hsd : b.sld with
  | true =>
   rw [ziA, if_pos hsd] at e0
   have hln := fun nx (h : 3 ≤ nx) => zgy [[99, 105, 114, 99, 108, 101], [98, 105, 100, 100, 105, 110, 103], [115, 101, 97, 108, 101, 100]] 1 nx (by omega) (by rw [← e0]; omega) (by simp)
   rw [← e0] at hln
   simp only [List.map_cons, List.map_nil] at hln
   repeat' (first
  | (refine zgE (by first | (simp; done) | fail) (by simp) ?_; simp)
  | (refine zaf ?_; simp [hsd])
  | (refine zal ?_; simp [hsd])
  | (refine zah ?_; simp [hsd])
  | (refine zai ?_; simp [hsd])
  | (refine zaC ?_; simp [hsd])
  | (refine zap ?_; simp only [zao])
  | (refine CallP.fE (hri) (by first | rfl | fail) (by first | (simp [hsd]; done) | (simp [hsd]; rfl) | fail) ⟨by first | assumption | (simp; done) | fail, by simp, ?_⟩; (try simp [hsd]))
  | (refine zaq (by first | rfl | fail) ?_; simp [hsd, frzN, frz1, zay, zax, St.frz, St.frzS, frzS, fv, zaz, za5, za8, zaF, zat, zaj, del, frz, za9])
  | fail)
   refine CallP.okL (hln _ (by simp)) (by simp [zaa, getK]) (by rfl) (by rfl) ⟨by first | assumption | (simp; done), by simp, ?_⟩
   simp [zdf, del]
   refine zal ?_
   simp only [zao]
   refine zhw _ ?_ key
   exact (Wk.ren ((fun x => if x = 3 then 5 else x)) rfl (by first | (simp [hn]; done) | (intro i hi; rw [hn] at hi; constructor <;> (try simp) <;> (try (intro _)) <;> omega)) (by simp [zgj, St.lp, zan, zaa, getK, zac, zak, D.under, D.le, D.ren] <;> (try (intros; simp_all; done)) <;> (try omega)) (by simp [wkR, St.lp, zaa, getK, zac, zak, obR, leU, zbk, zaU, Ob.under, D.under, D.le, D.ren] <;> (try (intros; simp_all; done)) <;> (try omega)) (by simp))
  | false =>
   have hk3 : b.kind = 0 ∨ b.kind = 1 ∨ b.kind = 2 := by omega
   have go : ∀ (kw : W8) (kd : Int), b.kind = kd → (kd = 0 ∧ kw = [114, 111, 116, 97, 116, 105, 110, 103] ∨ kd = 1 ∧ kw = [98, 105, 100, 100, 105, 110, 103] ∨ kd = 2 ∧ kw = [115, 97, 118, 105, 110, 103]) → T0 = zbP [[99, 105, 114, 99, 108, 101], kw] := fun kw kd h1 h2 => by
    rw [e0, ziA, hsd]
    rcases h2 with ⟨rfl, rfl⟩ | ⟨rfl, rfl⟩ | ⟨rfl, rfl⟩ <;> simp [h1]
   rcases hk3 with hk0 | hk0 | hk0
   ·have e1 := go [114, 111, 116, 97, 116, 105, 110, 103] 0 hk0 (by decide)
    have hln := fun nx (h : 3 ≤ nx) => zgy [[99, 105, 114, 99, 108, 101], [114, 111, 116, 97, 116, 105, 110, 103]] 1 nx (by omega) (by rw [← e1]; omega) (by simp)
    rw [← e1] at hln
    simp only [List.map_cons, List.map_nil] at hln
    repeat' (first
  | (refine zgE (by first | (simp; done) | fail) (by simp) ?_; simp)
  | (refine zdy ?_; simp [hsd, hk0])
  | (refine zel rfl rfl (by decide +kernel) (by first | (simp [hn]; done) | (simp [hn]; omega) | fail) fun C k hC hk => ?_; simp [hsd, hk0])
  | (refine zaf ?_; simp [hsd, hk0])
  | (refine zbt rfl ?_; simp [hsd, hk0])
  | (refine zcc rfl ?_; simp [hsd, hk0])
  | (refine zal ?_; simp [hsd, hk0])
  | (refine zah ?_; simp [hsd, hk0])
  | (refine zai ?_; simp [hsd, hk0])
  | (refine zbQ (hC _ (by kernel_rfl)) (hk _ ?_); clear hC hk C k; simp only [zao])
  | (refine zap ?_; simp only [zao])
  | (refine CallP.fE (hri) (by first | rfl | fail) (by first | (simp [hsd, hk0]; done) | (simp [hsd, hk0]; rfl) | fail) ⟨by first | assumption | (simp; done) | fail, by simp, ?_⟩; (try simp [hsd, hk0]))
  | (refine zaq (by first | rfl | fail) ?_; simp [hsd, hk0, frzN, frz1, zay, zax, St.frz, St.frzS, frzS, fv, zaz, za5, za8, zaF, zat, zaj, del, frz, za9])
  | fail)
    refine CallP.okL (hln _ (by simp)) (by simp [zaa, getK]) (by rfl) (by rfl) ⟨by first | assumption | (simp; done), by simp, ?_⟩
    simp [zdf, del]
    refine zal ?_
    simp only [zao]
    refine zhw _ ?_ key
    exact (Wk.ren ((fun x => if x = 3 then 6 else x)) rfl (by first | (simp [hn]; done) | (intro i hi; rw [hn] at hi; constructor <;> (try simp) <;> (try (intro _)) <;> omega)) (by simp [zgj, St.lp, zan, zaa, getK, zac, zak, D.under, D.le, D.ren] <;> (try (intros; simp_all; done)) <;> (try omega)) (by simp [wkR, St.lp, zaa, getK, zac, zak, obR, leU, zbk, zaU, Ob.under, D.under, D.le, D.ren] <;> (try (intros; simp_all; done)) <;> (try omega)) (by simp))
   ·have e1 := go [98, 105, 100, 100, 105, 110, 103] 1 hk0 (by decide)
    have hln := fun nx (h : 3 ≤ nx) => zgy [[99, 105, 114, 99, 108, 101], [98, 105, 100, 100, 105, 110, 103]] 1 nx (by omega) (by rw [← e1]; omega) (by simp)
    rw [← e1] at hln
    simp only [List.map_cons, List.map_nil] at hln
    repeat' (first
  | (refine zgE (by first | (simp; done) | fail) (by simp) ?_; simp)
  | (refine zdy ?_; simp [hsd, hk0])
  | (refine zel rfl rfl (by decide +kernel) (by first | (simp [hn]; done) | (simp [hn]; omega) | fail) fun C k hC hk => ?_; simp [hsd, hk0])
  | (refine zaf ?_; simp [hsd, hk0])
  | (refine zbt rfl ?_; simp [hsd, hk0])
  | (refine zcc rfl ?_; simp [hsd, hk0])
  | (refine zal ?_; simp [hsd, hk0])
  | (refine zah ?_; simp [hsd, hk0])
  | (refine zai ?_; simp [hsd, hk0])
  | (refine zbQ (hC _ (by kernel_rfl)) (hk _ ?_); clear hC hk C k; simp only [zao])
  | (refine zap ?_; simp only [zao])
  | (refine CallP.fE (hri) (by first | rfl | fail) (by first | (simp [hsd, hk0]; done) | (simp [hsd, hk0]; rfl) | fail) ⟨by first | assumption | (simp; done) | fail, by simp, ?_⟩; (try simp [hsd, hk0]))
  | (refine zaq (by first | rfl | fail) ?_; simp [hsd, hk0, frzN, frz1, zay, zax, St.frz, St.frzS, frzS, fv, zaz, za5, za8, zaF, zat, zaj, del, frz, za9])
  | fail)
    refine CallP.okL (hln _ (by simp)) (by simp [zaa, getK]) (by rfl) (by rfl) ⟨by first | assumption | (simp; done), by simp, ?_⟩
    simp [zdf, del]
    refine zal ?_
    simp only [zao]
    refine zhw _ ?_ key
    exact (Wk.ren ((fun x => if x = 3 then 6 else x)) rfl (by first | (simp [hn]; done) | (intro i hi; rw [hn] at hi; constructor <;> (try simp) <;> (try (intro _)) <;> omega)) (by simp [zgj, St.lp, zan, zaa, getK, zac, zak, D.under, D.le, D.ren] <;> (try (intros; simp_all; done)) <;> (try omega)) (by simp [wkR, St.lp, zaa, getK, zac, zak, obR, leU, zbk, zaU, Ob.under, D.under, D.le, D.ren] <;> (try (intros; simp_all; done)) <;> (try omega)) (by simp))
   ·have e1 := go [115, 97, 118, 105, 110, 103] 2 hk0 (by decide)
    have hln := fun nx (h : 3 ≤ nx) => zgy [[99, 105, 114, 99, 108, 101], [115, 97, 118, 105, 110, 103]] 1 nx (by omega) (by rw [← e1]; omega) (by simp)
    rw [← e1] at hln
    simp only [List.map_cons, List.map_nil] at hln
    repeat' (first
  | (refine zgE (by first | (simp; done) | fail) (by simp) ?_; simp)
  | (refine zdy ?_; simp [hsd, hk0])
  | (refine zel rfl rfl (by decide +kernel) (by first | (simp [hn]; done) | (simp [hn]; omega) | fail) fun C k hC hk => ?_; simp [hsd, hk0])
  | (refine zaf ?_; simp [hsd, hk0])
  | (refine zbt rfl ?_; simp [hsd, hk0])
  | (refine zcc rfl ?_; simp [hsd, hk0])
  | (refine zal ?_; simp [hsd, hk0])
  | (refine zah ?_; simp [hsd, hk0])
  | (refine zai ?_; simp [hsd, hk0])
  | (refine zbQ (hC _ (by kernel_rfl)) (hk _ ?_); clear hC hk C k; simp only [zao])
  | (refine zap ?_; simp only [zao])
  | (refine CallP.fE (hri) (by first | rfl | fail) (by first | (simp [hsd, hk0]; done) | (simp [hsd, hk0]; rfl) | fail) ⟨by first | assumption | (simp; done) | fail, by simp, ?_⟩; (try simp [hsd, hk0]))
  | (refine zaq (by first | rfl | fail) ?_; simp [hsd, hk0, frzN, frz1, zay, zax, St.frz, St.frzS, frzS, fv, zaz, za5, za8, zaF, zat, zaj, del, frz, za9])
  | fail)
    refine CallP.okL (hln _ (by simp)) (by simp [zaa, getK]) (by rfl) (by rfl) ⟨by first | assumption | (simp; done), by simp, ?_⟩
    simp [zdf, del]
    refine zal ?_
    simp only [zao]
    refine zhw _ ?_ key
    exact (Wk.ren ((fun x => if x = 3 then 6 else x)) rfl (by first | (simp [hn]; done) | (intro i hi; rw [hn] at hi; constructor <;> (try simp) <;> (try (intro _)) <;> omega)) (by simp [zgj, St.lp, zan, zaa, getK, zac, zak, D.under, D.le, D.ren] <;> (try (intros; simp_all; done)) <;> (try omega)) (by simp [wkR, St.lp, zaa, getK, zac, zak, obR, leU, zbk, zaU, Ob.under, D.under, D.le, D.ren] <;> (try (intros; simp_all; done)) <;> (try omega)) (by simp))
 case key =>
 rw [← hCL]
 have x0 : CL[0]? = some (.u (.int .i64 b.kind)) := by rw [hCL]; rfl
 have x1 : CL[1]? = some (.u (.int .i64 b.period)) := by rw [hCL]; rfl
 have x2 : CL[2]? = some (.u (.int .i64 b.grace)) := by rw [hCL]; rfl
 have x3 : CL[3]? = some (.u (.int .i64 b.wait)) := by rw [hCL]; rfl
 have x4 : CL[4]? = some (.u (.int .i64 b.last)) := by rw [hCL]; rfl
 have x5 : CL[5]? = some (.u (.int .i64 b.order)) := by rw [hCL]; rfl
 have x6 : CL[6]? = some (.u (.bool b.sld)) := by rw [hCL]; rfl
 have x7 : CL[7]? = some (.u (.int .i64 b.backs)) := by rw [hCL]; rfl
 have x8 : CL[8]? = some (.u (.int .i64 b.voices)) := by rw [hCL]; rfl
 have x9 : CL[9]? = some (.u (.int .i64 b.jury)) := by rw [hCL]; rfl
 have x10 : CL[10]? = some (.u (.int .i64 b.fund)) := by rw [hCL]; rfl
 have x11 : CL[11]? = some (.u (.sl (b.lets.map fun l => [.str l.name, .int .i64 l.body.op, .int .i64 l.body.n, .int .i64 l.body.unit, .str l.body.s, .sl (l.body.args.map Exp.row)]))) := by rw [hCL]; rfl
 have x12 : CL[12]? = some (.u (.int .i64 b.due.op)) := by rw [hCL]; rfl
 have x13 : CL[13]? = some (.u (.int .i64 b.due.n)) := by rw [hCL]; rfl
 have x14 : CL[14]? = some (.u (.int .i64 b.due.unit)) := by rw [hCL]; rfl
 have x15 : CL[15]? = some (.u (.str b.due.s)) := by rw [hCL]; rfl
 have x16 : CL[16]? = some (.u (.sl (b.due.args.map Exp.row))) := by rw [hCL]; rfl
 have x17 : CL[17]? = some (.u (.int .i64 b.fine.op)) := by rw [hCL]; rfl
 have x18 : CL[18]? = some (.u (.int .i64 b.fine.n)) := by rw [hCL]; rfl
 have x19 : CL[19]? = some (.u (.int .i64 b.fine.unit)) := by rw [hCL]; rfl
 have x20 : CL[20]? = some (.u (.str b.fine.s)) := by rw [hCL]; rfl
 have x21 : CL[21]? = some (.u (.sl (b.fine.args.map Exp.row))) := by rw [hCL]; rfl
 have x22 : CL[22]? = some (.u (.int .i64 b.pay.op)) := by rw [hCL]; rfl
 have x23 : CL[23]? = some (.u (.int .i64 b.pay.n)) := by rw [hCL]; rfl
 have x24 : CL[24]? = some (.u (.int .i64 b.pay.unit)) := by rw [hCL]; rfl
 have x25 : CL[25]? = some (.u (.str b.pay.s)) := by rw [hCL]; rfl
 have x26 : CL[26]? = some (.u (.sl (b.pay.args.map Exp.row))) := by rw [hCL]; rfl
 have x27 : CL[27]? = some (.u (.int .i64 b.cover.op)) := by rw [hCL]; rfl
 have x28 : CL[28]? = some (.u (.int .i64 b.cover.n)) := by rw [hCL]; rfl
 have x29 : CL[29]? = some (.u (.int .i64 b.cover.unit)) := by rw [hCL]; rfl
 have x30 : CL[30]? = some (.u (.str b.cover.s)) := by rw [hCL]; rfl
 have x31 : CL[31]? = some (.u (.sl (b.cover.args.map Exp.row))) := by rw [hCL]; rfl
 have x32 : CL[32]? = some (.u (.int .i64 b.hold.op)) := by rw [hCL]; rfl
 have x33 : CL[33]? = some (.u (.int .i64 b.hold.n)) := by rw [hCL]; rfl
 have x34 : CL[34]? = some (.u (.int .i64 b.hold.unit)) := by rw [hCL]; rfl
 have x35 : CL[35]? = some (.u (.str b.hold.s)) := by rw [hCL]; rfl
 have x36 : CL[36]? = some (.u (.sl (b.hold.args.map Exp.row))) := by rw [hCL]; rfl
 have xun : (∀ x : D, x ∈ CL → D.under 4 x = true) = True := eq_true (by rw [hCL]; simp [D.under])
 have y12 : 17 ≤ CL.length := by rw [hCL]; simp
 have z12 : List.take 5 (List.drop 12 CL) = [.u (.int .i64 b.due.op), .u (.int .i64 b.due.n), .u (.int .i64 b.due.unit), .u (.str b.due.s), .u (.sl (b.due.args.map Exp.row))] := by rw [hCL]; rfl
 have y17 : 22 ≤ CL.length := by rw [hCL]; simp
 have z17 : List.take 5 (List.drop 17 CL) = [.u (.int .i64 b.fine.op), .u (.int .i64 b.fine.n), .u (.int .i64 b.fine.unit), .u (.str b.fine.s), .u (.sl (b.fine.args.map Exp.row))] := by rw [hCL]; rfl
 have y22 : 27 ≤ CL.length := by rw [hCL]; simp
 have z22 : List.take 5 (List.drop 22 CL) = [.u (.int .i64 b.pay.op), .u (.int .i64 b.pay.n), .u (.int .i64 b.pay.unit), .u (.str b.pay.s), .u (.sl (b.pay.args.map Exp.row))] := by rw [hCL]; rfl
 have y27 : 32 ≤ CL.length := by rw [hCL]; simp
 have z27 : List.take 5 (List.drop 27 CL) = [.u (.int .i64 b.cover.op), .u (.int .i64 b.cover.n), .u (.int .i64 b.cover.unit), .u (.str b.cover.s), .u (.sl (b.cover.args.map Exp.row))] := by rw [hCL]; rfl
 have y32 : 37 ≤ CL.length := by rw [hCL]; simp
 have z32 : List.take 5 (List.drop 32 CL) = [.u (.int .i64 b.hold.op), .u (.int .i64 b.hold.n), .u (.int .i64 b.hold.unit), .u (.str b.hold.s), .u (.sl (b.hold.args.map Exp.row))] := by rw [hCL]; rfl
 have xfz : ∀ σ, CL.map (frzS σ) = CL := fun σ => by rw [hCL]; simp [VL.frzS]
 have xle : ∀ ρ nx, leU ρ nx CL CL := fun ρ nx => by rw [hCL]; simp [leU, D.le, D.ren, D.under]
 have p1 := zdh T0 [112, 101, 114, 105, 111, 100] b.period [[100, 97, 121, 115]]
 obtain ⟨T1, e1⟩ : ∃ T1, T1 = T0 ++ zb7 [112, 101, 114, 105, 111, 100] b.period [[100, 97, 121, 115]] := ⟨_, rfl⟩
 have l1 : (zb7 [112, 101, 114, 105, 111, 100] b.period [[100, 97, 121, 115]]).length ≤ 100 := zdk (by omega) (by omega) (by decide)
 have m1 : T1.length ≤ T0.length + 100 := by rw [e1, List.length_append]; omega
 rw [← e1] at p1
 repeat' (first
  | (refine zaf ?_; simp [x0, x1, x2, x3, x4, x5, x6, x7, x8, x9, x10, x11, x12, x13, x14, x15, x16, x17, x18, x19, x20, x21, x22, x23, x24, x25, x26, x27, x28, x29, x30, x31, x32, x33, x34, x35, x36, xfz])
  | (refine zah ?_; simp [x0, x1, x2, x3, x4, x5, x6, x7, x8, x9, x10, x11, x12, x13, x14, x15, x16, x17, x18, x19, x20, x21, x22, x23, x24, x25, x26, x27, x28, x29, x30, x31, x32, x33, x34, x35, x36, xfz])
  | (refine zaq (by first | rfl | fail) ?_; simp [x0, x1, x2, x3, x4, x5, x6, x7, x8, x9, x10, x11, x12, x13, x14, x15, x16, x17, x18, x19, x20, x21, x22, x23, x24, x25, x26, x27, x28, x29, x30, x31, x32, x33, x34, x35, x36, xfz, frzN, frz1, zay, zax, St.frz, St.frzS, frzS, fv, zaz, za5, za8, zaF, zat, zaj, del, frz, za9])
  | fail)
 refine CallP.okE (p1 3 _ (by omega) (by first | omega | (simp; done) | (simp; omega) | fail) (by omega) (by omega) (by omega) (by simp)) (by first | (simp [zaa, getK, zab, zac]; done) | fail) (by rfl) (by first | assumption | (simp; done) | fail) (by rfl) (by simp) ?_
 rintro d o N hN ⟨rfl, j', h3, hlt, hge, rfl⟩
 simp at hge
 have q0 : ¬ j' = 0 := by omega
 have q1 : ¬ j' = 1 := by omega
 have q2 : ¬ j' = 2 := by omega
 have q3 : ¬ 0 = j' := by omega
 have q4 : ¬ 1 = j' := by omega
 have q5 : ¬ 2 = j' := by omega
 simp [zdf, del]
 refine zal ?_
 simp only [zao]
 refine zhw { n := 118, env := [(1, .ptr 0 0), (4, .ptr 1 0), (5, .ptr 2 0), (6, .fnc (.func 55) [.ptr 2 0]), (7, .fnc (.func 57) [.ptr 2 0])], obs := [(0, .box CL), (2, zce), (1, zdo 3 T1), (3, zdn T1)], next := 4 } (Wk.ren ((fun x => if x = 3 then j' else x)) rfl (by first | (simp [hn]; done) | (intro i hi; rw [hn] at hi; constructor <;> (try simp) <;> (try (intro _)) <;> omega)) (by simp [zgj, St.lp, zan, zaa, getK, zac, zak, D.under, D.le, D.ren, h3, hlt, q0, q1, q2, q3, q4, q5, xle, xfz] <;> (try (intros; simp_all; done)) <;> (try omega)) (by simp [wkR, St.lp, zaa, getK, zac, zak, obR, leU, zbk, zaU, Ob.under, D.under, D.le, D.ren, h3, hlt, q0, q1, q2, q3, q4, q5, xle, xfz] <;> (try (intros; simp_all; done)) <;> (try omega)) (by simp [h3, hlt, q0, q1, q2, q3, q4, q5, xle, xfz])) ?_
 have p2 := zdh T1 [108, 97, 115, 116] b.last []
 obtain ⟨T2, e2⟩ : ∃ T2, T2 = T1 ++ zb7 [108, 97, 115, 116] b.last [] := ⟨_, rfl⟩
 have l2 : (zb7 [108, 97, 115, 116] b.last []).length ≤ 100 := zdk (by omega) (by omega) (by decide)
 have m2 : T2.length ≤ T1.length + 100 := by rw [e2, List.length_append]; omega
 rw [← e2] at p2
 repeat' (first
  | (refine zaf ?_; simp [x0, x1, x2, x3, x4, x5, x6, x7, x8, x9, x10, x11, x12, x13, x14, x15, x16, x17, x18, x19, x20, x21, x22, x23, x24, x25, x26, x27, x28, x29, x30, x31, x32, x33, x34, x35, x36, xfz])
  | (refine zah ?_; simp [x0, x1, x2, x3, x4, x5, x6, x7, x8, x9, x10, x11, x12, x13, x14, x15, x16, x17, x18, x19, x20, x21, x22, x23, x24, x25, x26, x27, x28, x29, x30, x31, x32, x33, x34, x35, x36, xfz])
  | fail)
 refine CallP.okE (zkG (p2 3 _ (by omega) (by first | omega | (simp; done) | (simp; omega) | fail) (by omega) (by omega) (by omega) (by simp))) (by first | (simp [zaa, getK, zab, zac]; done) | fail) (by rfl) (by first | assumption | (simp; done) | fail) (by rfl) (by simp) ?_
 rintro d o N hN ⟨rfl, j', h3, hlt, hge, rfl⟩
 simp at hge
 have q0 : ¬ j' = 0 := by omega
 have q1 : ¬ j' = 1 := by omega
 have q2 : ¬ j' = 2 := by omega
 have q3 : ¬ 0 = j' := by omega
 have q4 : ¬ 1 = j' := by omega
 have q5 : ¬ 2 = j' := by omega
 simp [zdf, del]
 refine zal ?_
 simp only [zao]
 refine zhw { n := 118, env := [(1, .ptr 0 0), (4, .ptr 1 0), (5, .ptr 2 0), (6, .fnc (.func 55) [.ptr 2 0]), (7, .fnc (.func 57) [.ptr 2 0])], obs := [(0, .box CL), (2, zce), (1, zdo 3 T2), (3, zdn T2)], next := 4 } (Wk.ren ((fun x => if x = 3 then j' else x)) rfl (by first | (simp [hn]; done) | (intro i hi; rw [hn] at hi; constructor <;> (try simp) <;> (try (intro _)) <;> omega)) (by simp [zgj, St.lp, zan, zaa, getK, zac, zak, D.under, D.le, D.ren, h3, hlt, q0, q1, q2, q3, q4, q5, xle, xfz] <;> (try (intros; simp_all; done)) <;> (try omega)) (by simp [wkR, St.lp, zaa, getK, zac, zak, obR, leU, zbk, zaU, Ob.under, D.under, D.le, D.ren, h3, hlt, q0, q1, q2, q3, q4, q5, xle, xfz] <;> (try (intros; simp_all; done)) <;> (try omega)) (by simp [h3, hlt, q0, q1, q2, q3, q4, q5, xle, xfz])) ?_
 have p3 := zdh T2 [103, 114, 97, 99, 101] b.grace [[100, 97, 121, 115]]
 obtain ⟨T3, e3⟩ : ∃ T3, T3 = T2 ++ zb7 [103, 114, 97, 99, 101] b.grace [[100, 97, 121, 115]] := ⟨_, rfl⟩
 have l3 : (zb7 [103, 114, 97, 99, 101] b.grace [[100, 97, 121, 115]]).length ≤ 100 := zdk (by omega) (by omega) (by decide)
 have m3 : T3.length ≤ T2.length + 100 := by rw [e3, List.length_append]; omega
 rw [← e3] at p3
 repeat' (first
  | (refine zaf ?_; simp [x0, x1, x2, x3, x4, x5, x6, x7, x8, x9, x10, x11, x12, x13, x14, x15, x16, x17, x18, x19, x20, x21, x22, x23, x24, x25, x26, x27, x28, x29, x30, x31, x32, x33, x34, x35, x36, xfz])
  | (refine zah ?_; simp [x0, x1, x2, x3, x4, x5, x6, x7, x8, x9, x10, x11, x12, x13, x14, x15, x16, x17, x18, x19, x20, x21, x22, x23, x24, x25, x26, x27, x28, x29, x30, x31, x32, x33, x34, x35, x36, xfz])
  | (refine zaq (by first | rfl | fail) ?_; simp [x0, x1, x2, x3, x4, x5, x6, x7, x8, x9, x10, x11, x12, x13, x14, x15, x16, x17, x18, x19, x20, x21, x22, x23, x24, x25, x26, x27, x28, x29, x30, x31, x32, x33, x34, x35, x36, xfz, frzN, frz1, zay, zax, St.frz, St.frzS, frzS, fv, zaz, za5, za8, zaF, zat, zaj, del, frz, za9])
  | fail)
 refine CallP.okE (p3 3 _ (by omega) (by first | omega | (simp; done) | (simp; omega) | fail) (by omega) (by omega) (by omega) (by simp)) (by first | (simp [zaa, getK, zab, zac]; done) | fail) (by rfl) (by first | assumption | (simp; done) | fail) (by rfl) (by simp) ?_
 rintro d o N hN ⟨rfl, j', h3, hlt, hge, rfl⟩
 simp at hge
 have q0 : ¬ j' = 0 := by omega
 have q1 : ¬ j' = 1 := by omega
 have q2 : ¬ j' = 2 := by omega
 have q3 : ¬ 0 = j' := by omega
 have q4 : ¬ 1 = j' := by omega
 have q5 : ¬ 2 = j' := by omega
 simp [zdf, del]
 refine zal ?_
 simp only [zao]
 refine zhw { n := 118, env := [(1, .ptr 0 0), (4, .ptr 1 0), (5, .ptr 2 0), (6, .fnc (.func 55) [.ptr 2 0]), (7, .fnc (.func 57) [.ptr 2 0])], obs := [(0, .box CL), (2, zce), (1, zdo 3 T3), (3, zdn T3)], next := 4 } (Wk.ren ((fun x => if x = 3 then j' else x)) rfl (by first | (simp [hn]; done) | (intro i hi; rw [hn] at hi; constructor <;> (try simp) <;> (try (intro _)) <;> omega)) (by simp [zgj, St.lp, zan, zaa, getK, zac, zak, D.under, D.le, D.ren, h3, hlt, q0, q1, q2, q3, q4, q5, xle, xfz] <;> (try (intros; simp_all; done)) <;> (try omega)) (by simp [wkR, St.lp, zaa, getK, zac, zak, obR, leU, zbk, zaU, Ob.under, D.under, D.le, D.ren, h3, hlt, q0, q1, q2, q3, q4, q5, xle, xfz] <;> (try (intros; simp_all; done)) <;> (try omega)) (by simp [h3, hlt, q0, q1, q2, q3, q4, q5, xle, xfz])) ?_
 have p4 := zdh T3 [119, 97, 105, 116] b.wait [[100, 97, 121, 115]]
 obtain ⟨T4, e4⟩ : ∃ T4, T4 = T3 ++ zb7 [119, 97, 105, 116] b.wait [[100, 97, 121, 115]] := ⟨_, rfl⟩
 have l4 : (zb7 [119, 97, 105, 116] b.wait [[100, 97, 121, 115]]).length ≤ 100 := zdk (by omega) (by omega) (by decide)
 have m4 : T4.length ≤ T3.length + 100 := by rw [e4, List.length_append]; omega
 rw [← e4] at p4
 repeat' (first
  | (refine zaf ?_; simp [x0, x1, x2, x3, x4, x5, x6, x7, x8, x9, x10, x11, x12, x13, x14, x15, x16, x17, x18, x19, x20, x21, x22, x23, x24, x25, x26, x27, x28, x29, x30, x31, x32, x33, x34, x35, x36, xfz])
  | (refine zah ?_; simp [x0, x1, x2, x3, x4, x5, x6, x7, x8, x9, x10, x11, x12, x13, x14, x15, x16, x17, x18, x19, x20, x21, x22, x23, x24, x25, x26, x27, x28, x29, x30, x31, x32, x33, x34, x35, x36, xfz])
  | (refine zaq (by first | rfl | fail) ?_; simp [x0, x1, x2, x3, x4, x5, x6, x7, x8, x9, x10, x11, x12, x13, x14, x15, x16, x17, x18, x19, x20, x21, x22, x23, x24, x25, x26, x27, x28, x29, x30, x31, x32, x33, x34, x35, x36, xfz, frzN, frz1, zay, zax, St.frz, St.frzS, frzS, fv, zaz, za5, za8, zaF, zat, zaj, del, frz, za9])
  | fail)
 refine CallP.okE (p4 3 _ (by omega) (by first | omega | (simp; done) | (simp; omega) | fail) (by omega) (by omega) (by omega) (by simp)) (by first | (simp [zaa, getK, zab, zac]; done) | fail) (by rfl) (by first | assumption | (simp; done) | fail) (by rfl) (by simp) ?_
 rintro d o N hN ⟨rfl, j', h3, hlt, hge, rfl⟩
 simp at hge
 have q0 : ¬ j' = 0 := by omega
 have q1 : ¬ j' = 1 := by omega
 have q2 : ¬ j' = 2 := by omega
 have q3 : ¬ 0 = j' := by omega
 have q4 : ¬ 1 = j' := by omega
 have q5 : ¬ 2 = j' := by omega
 simp [zdf, del]
 refine zal ?_
 simp only [zao]
 refine zhw { n := 118, env := [(1, .ptr 0 0), (4, .ptr 1 0), (5, .ptr 2 0), (6, .fnc (.func 55) [.ptr 2 0]), (7, .fnc (.func 57) [.ptr 2 0])], obs := [(0, .box CL), (2, zce), (1, zdo 3 T4), (3, zdn T4)], next := 4 } (Wk.ren ((fun x => if x = 3 then j' else x)) rfl (by first | (simp [hn]; done) | (intro i hi; rw [hn] at hi; constructor <;> (try simp) <;> (try (intro _)) <;> omega)) (by simp [zgj, St.lp, zan, zaa, getK, zac, zak, D.under, D.le, D.ren, h3, hlt, q0, q1, q2, q3, q4, q5, xle, xfz] <;> (try (intros; simp_all; done)) <;> (try omega)) (by simp [wkR, St.lp, zaa, getK, zac, zak, obR, leU, zbk, zaU, Ob.under, D.under, D.le, D.ren, h3, hlt, q0, q1, q2, q3, q4, q5, xle, xfz] <;> (try (intros; simp_all; done)) <;> (try omega)) (by simp [h3, hlt, q0, q1, q2, q3, q4, q5, xle, xfz])) ?_
 obtain ⟨T5, e5⟩ : ∃ T5, T5 = T4 ++ zhP b.order := ⟨_, rfl⟩
 have ho3 : b.order = 0 ∨ b.order = 1 ∨ b.order = 2 := by omega
 have l5 : (zhP b.order).length ≤ 100 := by rcases ho3 with h | h | h <;> rw [h] <;> decide
 have m5 : T5.length ≤ T4.length + 100 := by rw [e5, List.length_append]; omega
 apply zoi (S := { n := 118, env := [(1, .ptr 0 0), (4, .ptr 1 0), (5, .ptr 2 0), (6, .fnc (.func 55) [.ptr 2 0]), (7, .fnc (.func 57) [.ptr 2 0])], obs := [(0, .box CL), (2, zce), (1, zdo 3 T5), (3, zdn T5)], next := 4 })
 case main =>
  intro key2
  rcases ho3 with ho | ho | ho
  ·have e2 : T5 = T4 := by rw [e5, ho, zhP, if_pos rfl, List.append_nil]
   repeat' (first
   | (refine zaf ?_; simp [x0, x1, x2, x3, x4, x5, x6, x7, x8, x9, x10, x11, x12, x13, x14, x15, x16, x17, x18, x19, x20, x21, x22, x23, x24, x25, x26, x27, x28, x29, x30, x31, x32, x33, x34, x35, x36, xfz, ho])
   | (refine zal ?_; simp [x0, x1, x2, x3, x4, x5, x6, x7, x8, x9, x10, x11, x12, x13, x14, x15, x16, x17, x18, x19, x20, x21, x22, x23, x24, x25, x26, x27, x28, x29, x30, x31, x32, x33, x34, x35, x36, xfz, ho])
   | (refine zah ?_; simp [x0, x1, x2, x3, x4, x5, x6, x7, x8, x9, x10, x11, x12, x13, x14, x15, x16, x17, x18, x19, x20, x21, x22, x23, x24, x25, x26, x27, x28, x29, x30, x31, x32, x33, x34, x35, x36, xfz, ho])
   | (refine zai ?_; simp [x0, x1, x2, x3, x4, x5, x6, x7, x8, x9, x10, x11, x12, x13, x14, x15, x16, x17, x18, x19, x20, x21, x22, x23, x24, x25, x26, x27, x28, x29, x30, x31, x32, x33, x34, x35, x36, xfz, ho])
   | (refine zaC ?_; simp [x0, x1, x2, x3, x4, x5, x6, x7, x8, x9, x10, x11, x12, x13, x14, x15, x16, x17, x18, x19, x20, x21, x22, x23, x24, x25, x26, x27, x28, x29, x30, x31, x32, x33, x34, x35, x36, xfz, ho]))
   refine zap ?_
   simp only [zao]
   refine zhw _ ?_ key2
   rw [e2]
   exact (Wk.cut rfl (by simp [hn, St.lp]) (by simp [wkO, St.lp, zaa, getK, Ob.under, D.under, zad, zae, xle, xun]) (by simp [wkU, St.lp, zan, zaa, getK, D.under, xle, xun]) (by simp [wkE, St.lp, zan, zaa, getK, xle, xun] <;> (try (intros; simp_all; done)) <;> (try (intros; omega)) <;> (try grind)))
  ·have e2 : T5 = T4 ++ zbP [[111, 114, 100, 101, 114], [100, 114, 97, 119]] := by rw [e5, ho]; rfl
   have hor := zfR
   simp only [ordersW, List.map_cons, List.map_nil] at hor
   have hln := fun nx (h : 4 ≤ nx) => zg5 T4 [[111, 114, 100, 101, 114], [100, 114, 97, 119]] 3 nx (by omega) (by omega) (by have := zeB [[111, 114, 100, 101, 114], [100, 114, 97, 119]]; rw [zbP]; simp at this ⊢; omega) (by simp)
   rw [← e2] at hln
   simp only [List.map_cons, List.map_nil] at hln
   repeat' (first
   | (refine zaf ?_; simp [x0, x1, x2, x3, x4, x5, x6, x7, x8, x9, x10, x11, x12, x13, x14, x15, x16, x17, x18, x19, x20, x21, x22, x23, x24, x25, x26, x27, x28, x29, x30, x31, x32, x33, x34, x35, x36, xfz, ho])
   | (refine zal ?_; simp [x0, x1, x2, x3, x4, x5, x6, x7, x8, x9, x10, x11, x12, x13, x14, x15, x16, x17, x18, x19, x20, x21, x22, x23, x24, x25, x26, x27, x28, x29, x30, x31, x32, x33, x34, x35, x36, xfz, ho])
   | (refine zah ?_; simp [x0, x1, x2, x3, x4, x5, x6, x7, x8, x9, x10, x11, x12, x13, x14, x15, x16, x17, x18, x19, x20, x21, x22, x23, x24, x25, x26, x27, x28, x29, x30, x31, x32, x33, x34, x35, x36, xfz, ho])
   | (refine zai ?_; simp [x0, x1, x2, x3, x4, x5, x6, x7, x8, x9, x10, x11, x12, x13, x14, x15, x16, x17, x18, x19, x20, x21, x22, x23, x24, x25, x26, x27, x28, x29, x30, x31, x32, x33, x34, x35, x36, xfz, ho])
   | (refine zaC ?_; simp [x0, x1, x2, x3, x4, x5, x6, x7, x8, x9, x10, x11, x12, x13, x14, x15, x16, x17, x18, x19, x20, x21, x22, x23, x24, x25, x26, x27, x28, x29, x30, x31, x32, x33, x34, x35, x36, xfz, ho]))
   repeat' (first
  | (refine zdy ?_; simp [x0, x1, x2, x3, x4, x5, x6, x7, x8, x9, x10, x11, x12, x13, x14, x15, x16, x17, x18, x19, x20, x21, x22, x23, x24, x25, x26, x27, x28, x29, x30, x31, x32, x33, x34, x35, x36, xfz, ho])
  | (refine zel rfl rfl (by decide +kernel) (by first | (simp [hn]; done) | (simp [hn]; omega) | fail) fun C k hC hk => ?_; simp [x0, x1, x2, x3, x4, x5, x6, x7, x8, x9, x10, x11, x12, x13, x14, x15, x16, x17, x18, x19, x20, x21, x22, x23, x24, x25, x26, x27, x28, x29, x30, x31, x32, x33, x34, x35, x36, xfz, ho])
  | (refine zaf ?_; simp [x0, x1, x2, x3, x4, x5, x6, x7, x8, x9, x10, x11, x12, x13, x14, x15, x16, x17, x18, x19, x20, x21, x22, x23, x24, x25, x26, x27, x28, x29, x30, x31, x32, x33, x34, x35, x36, xfz, ho])
  | (refine zbt rfl ?_; simp [x0, x1, x2, x3, x4, x5, x6, x7, x8, x9, x10, x11, x12, x13, x14, x15, x16, x17, x18, x19, x20, x21, x22, x23, x24, x25, x26, x27, x28, x29, x30, x31, x32, x33, x34, x35, x36, xfz, ho])
  | (refine zcc rfl ?_; simp [x0, x1, x2, x3, x4, x5, x6, x7, x8, x9, x10, x11, x12, x13, x14, x15, x16, x17, x18, x19, x20, x21, x22, x23, x24, x25, x26, x27, x28, x29, x30, x31, x32, x33, x34, x35, x36, xfz, ho])
  | (refine zbQ (hC _ (by kernel_rfl)) (hk _ ?_); clear hC hk C k; simp only [zao])
  | (refine CallV.fun_ (hor) (by first | rfl | fail) (by first | (simp [x0, x1, x2, x3, x4, x5, x6, x7, x8, x9, x10, x11, x12, x13, x14, x15, x16, x17, x18, x19, x20, x21, x22, x23, x24, x25, x26, x27, x28, x29, x30, x31, x32, x33, x34, x35, x36, xfz, ho]; done) | (simp [x0, x1, x2, x3, x4, x5, x6, x7, x8, x9, x10, x11, x12, x13, x14, x15, x16, x17, x18, x19, x20, x21, x22, x23, x24, x25, x26, x27, x28, x29, x30, x31, x32, x33, x34, x35, x36, xfz, ho]; rfl) | fail) ⟨by first | assumption | (simp; done) | fail, by simp, ?_⟩ <;> (try simp [x0, x1, x2, x3, x4, x5, x6, x7, x8, x9, x10, x11, x12, x13, x14, x15, x16, x17, x18, x19, x20, x21, x22, x23, x24, x25, x26, x27, x28, x29, x30, x31, x32, x33, x34, x35, x36, xfz, ho]))
  | (refine zaq (by first | rfl | fail) ?_; simp [x0, x1, x2, x3, x4, x5, x6, x7, x8, x9, x10, x11, x12, x13, x14, x15, x16, x17, x18, x19, x20, x21, x22, x23, x24, x25, x26, x27, x28, x29, x30, x31, x32, x33, x34, x35, x36, xfz, ho, frzN, frz1, zay, zax, St.frz, St.frzS, frzS, fv, zaz, za5, za8, zaF, zat, zaj, del, frz, za9])
  | fail)
   refine CallP.okL (hln _ (by simp)) (by simp [zaa, getK]) (by rfl) (by rfl) ⟨by first | assumption | (simp; done), by simp, ?_⟩
   simp [zdf, del]
   refine zal ?_
   simp only [zao]
   refine zhw _ ?_ key2
   exact (Wk.ren ((fun x => if x = 3 then 5 else x)) rfl (by first | (simp [hn]; done) | (intro i hi; rw [hn] at hi; constructor <;> (try simp) <;> (try (intro _)) <;> omega)) (by simp [zgj, St.lp, zan, zaa, getK, zac, zak, D.under, D.le, D.ren, xle, xfz] <;> (try (intros; simp_all; done)) <;> (try omega)) (by simp [wkR, St.lp, zaa, getK, zac, zak, obR, leU, zbk, zaU, Ob.under, D.under, D.le, D.ren, xle, xfz] <;> (try (intros; simp_all; done)) <;> (try omega)) (by simp [xle, xfz]))
  ·have e2 : T5 = T4 ++ zbP [[111, 114, 100, 101, 114], [110, 101, 101, 100]] := by rw [e5, ho]; rfl
   have hor := zfR
   simp only [ordersW, List.map_cons, List.map_nil] at hor
   have hln := fun nx (h : 4 ≤ nx) => zg5 T4 [[111, 114, 100, 101, 114], [110, 101, 101, 100]] 3 nx (by omega) (by omega) (by have := zeB [[111, 114, 100, 101, 114], [110, 101, 101, 100]]; rw [zbP]; simp at this ⊢; omega) (by simp)
   rw [← e2] at hln
   simp only [List.map_cons, List.map_nil] at hln
   repeat' (first
   | (refine zaf ?_; simp [x0, x1, x2, x3, x4, x5, x6, x7, x8, x9, x10, x11, x12, x13, x14, x15, x16, x17, x18, x19, x20, x21, x22, x23, x24, x25, x26, x27, x28, x29, x30, x31, x32, x33, x34, x35, x36, xfz, ho])
   | (refine zal ?_; simp [x0, x1, x2, x3, x4, x5, x6, x7, x8, x9, x10, x11, x12, x13, x14, x15, x16, x17, x18, x19, x20, x21, x22, x23, x24, x25, x26, x27, x28, x29, x30, x31, x32, x33, x34, x35, x36, xfz, ho])
   | (refine zah ?_; simp [x0, x1, x2, x3, x4, x5, x6, x7, x8, x9, x10, x11, x12, x13, x14, x15, x16, x17, x18, x19, x20, x21, x22, x23, x24, x25, x26, x27, x28, x29, x30, x31, x32, x33, x34, x35, x36, xfz, ho])
   | (refine zai ?_; simp [x0, x1, x2, x3, x4, x5, x6, x7, x8, x9, x10, x11, x12, x13, x14, x15, x16, x17, x18, x19, x20, x21, x22, x23, x24, x25, x26, x27, x28, x29, x30, x31, x32, x33, x34, x35, x36, xfz, ho])
   | (refine zaC ?_; simp [x0, x1, x2, x3, x4, x5, x6, x7, x8, x9, x10, x11, x12, x13, x14, x15, x16, x17, x18, x19, x20, x21, x22, x23, x24, x25, x26, x27, x28, x29, x30, x31, x32, x33, x34, x35, x36, xfz, ho]))
   repeat' (first
  | (refine zdy ?_; simp [x0, x1, x2, x3, x4, x5, x6, x7, x8, x9, x10, x11, x12, x13, x14, x15, x16, x17, x18, x19, x20, x21, x22, x23, x24, x25, x26, x27, x28, x29, x30, x31, x32, x33, x34, x35, x36, xfz, ho])
  | (refine zel rfl rfl (by decide +kernel) (by first | (simp [hn]; done) | (simp [hn]; omega) | fail) fun C k hC hk => ?_; simp [x0, x1, x2, x3, x4, x5, x6, x7, x8, x9, x10, x11, x12, x13, x14, x15, x16, x17, x18, x19, x20, x21, x22, x23, x24, x25, x26, x27, x28, x29, x30, x31, x32, x33, x34, x35, x36, xfz, ho])
  | (refine zaf ?_; simp [x0, x1, x2, x3, x4, x5, x6, x7, x8, x9, x10, x11, x12, x13, x14, x15, x16, x17, x18, x19, x20, x21, x22, x23, x24, x25, x26, x27, x28, x29, x30, x31, x32, x33, x34, x35, x36, xfz, ho])
  | (refine zbt rfl ?_; simp [x0, x1, x2, x3, x4, x5, x6, x7, x8, x9, x10, x11, x12, x13, x14, x15, x16, x17, x18, x19, x20, x21, x22, x23, x24, x25, x26, x27, x28, x29, x30, x31, x32, x33, x34, x35, x36, xfz, ho])
  | (refine zcc rfl ?_; simp [x0, x1, x2, x3, x4, x5, x6, x7, x8, x9, x10, x11, x12, x13, x14, x15, x16, x17, x18, x19, x20, x21, x22, x23, x24, x25, x26, x27, x28, x29, x30, x31, x32, x33, x34, x35, x36, xfz, ho])
  | (refine zbQ (hC _ (by kernel_rfl)) (hk _ ?_); clear hC hk C k; simp only [zao])
  | (refine CallV.fun_ (hor) (by first | rfl | fail) (by first | (simp [x0, x1, x2, x3, x4, x5, x6, x7, x8, x9, x10, x11, x12, x13, x14, x15, x16, x17, x18, x19, x20, x21, x22, x23, x24, x25, x26, x27, x28, x29, x30, x31, x32, x33, x34, x35, x36, xfz, ho]; done) | (simp [x0, x1, x2, x3, x4, x5, x6, x7, x8, x9, x10, x11, x12, x13, x14, x15, x16, x17, x18, x19, x20, x21, x22, x23, x24, x25, x26, x27, x28, x29, x30, x31, x32, x33, x34, x35, x36, xfz, ho]; rfl) | fail) ⟨by first | assumption | (simp; done) | fail, by simp, ?_⟩ <;> (try simp [x0, x1, x2, x3, x4, x5, x6, x7, x8, x9, x10, x11, x12, x13, x14, x15, x16, x17, x18, x19, x20, x21, x22, x23, x24, x25, x26, x27, x28, x29, x30, x31, x32, x33, x34, x35, x36, xfz, ho]))
  | (refine zaq (by first | rfl | fail) ?_; simp [x0, x1, x2, x3, x4, x5, x6, x7, x8, x9, x10, x11, x12, x13, x14, x15, x16, x17, x18, x19, x20, x21, x22, x23, x24, x25, x26, x27, x28, x29, x30, x31, x32, x33, x34, x35, x36, xfz, ho, frzN, frz1, zay, zax, St.frz, St.frzS, frzS, fv, zaz, za5, za8, zaF, zat, zaj, del, frz, za9])
  | fail)
   refine CallP.okL (hln _ (by simp)) (by simp [zaa, getK]) (by rfl) (by rfl) ⟨by first | assumption | (simp; done), by simp, ?_⟩
   simp [zdf, del]
   refine zal ?_
   simp only [zao]
   refine zhw _ ?_ key2
   exact (Wk.ren ((fun x => if x = 3 then 5 else x)) rfl (by first | (simp [hn]; done) | (intro i hi; rw [hn] at hi; constructor <;> (try simp) <;> (try (intro _)) <;> omega)) (by simp [zgj, St.lp, zan, zaa, getK, zac, zak, D.under, D.le, D.ren, xle, xfz] <;> (try (intros; simp_all; done)) <;> (try omega)) (by simp [wkR, St.lp, zaa, getK, zac, zak, obR, leU, zbk, zaU, Ob.under, D.under, D.le, D.ren, xle, xfz] <;> (try (intros; simp_all; done)) <;> (try omega)) (by simp [xle, xfz]))
 case key =>
 have p6 := zdh T5 [98, 97, 99, 107, 115] b.backs []
 obtain ⟨T6, e6⟩ : ∃ T6, T6 = T5 ++ zb7 [98, 97, 99, 107, 115] b.backs [] := ⟨_, rfl⟩
 have l6 : (zb7 [98, 97, 99, 107, 115] b.backs []).length ≤ 100 := zdk (by omega) (by omega) (by decide)
 have m6 : T6.length ≤ T5.length + 100 := by rw [e6, List.length_append]; omega
 rw [← e6] at p6
 repeat' (first
  | (refine zaf ?_; simp [x0, x1, x2, x3, x4, x5, x6, x7, x8, x9, x10, x11, x12, x13, x14, x15, x16, x17, x18, x19, x20, x21, x22, x23, x24, x25, x26, x27, x28, x29, x30, x31, x32, x33, x34, x35, x36, xfz])
  | (refine zah ?_; simp [x0, x1, x2, x3, x4, x5, x6, x7, x8, x9, x10, x11, x12, x13, x14, x15, x16, x17, x18, x19, x20, x21, x22, x23, x24, x25, x26, x27, x28, x29, x30, x31, x32, x33, x34, x35, x36, xfz])
  | fail)
 refine CallP.okE (zkG (p6 3 _ (by omega) (by first | omega | (simp; done) | (simp; omega) | fail) (by omega) (by omega) (by omega) (by simp))) (by first | (simp [zaa, getK, zab, zac]; done) | fail) (by rfl) (by first | assumption | (simp; done) | fail) (by rfl) (by simp) ?_
 rintro d o N hN ⟨rfl, j', h3, hlt, hge, rfl⟩
 simp at hge
 have q0 : ¬ j' = 0 := by omega
 have q1 : ¬ j' = 1 := by omega
 have q2 : ¬ j' = 2 := by omega
 have q3 : ¬ 0 = j' := by omega
 have q4 : ¬ 1 = j' := by omega
 have q5 : ¬ 2 = j' := by omega
 simp [zdf, del]
 refine zal ?_
 simp only [zao]
 refine zhw { n := 118, env := [(1, .ptr 0 0), (4, .ptr 1 0), (5, .ptr 2 0), (6, .fnc (.func 55) [.ptr 2 0]), (7, .fnc (.func 57) [.ptr 2 0])], obs := [(0, .box CL), (2, zce), (1, zdo 3 T6), (3, zdn T6)], next := 4 } (Wk.ren ((fun x => if x = 3 then j' else x)) rfl (by first | (simp [hn]; done) | (intro i hi; rw [hn] at hi; constructor <;> (try simp) <;> (try (intro _)) <;> omega)) (by simp [zgj, St.lp, zan, zaa, getK, zac, zak, D.under, D.le, D.ren, h3, hlt, q0, q1, q2, q3, q4, q5, xle, xfz] <;> (try (intros; simp_all; done)) <;> (try omega)) (by simp [wkR, St.lp, zaa, getK, zac, zak, obR, leU, zbk, zaU, Ob.under, D.under, D.le, D.ren, h3, hlt, q0, q1, q2, q3, q4, q5, xle, xfz] <;> (try (intros; simp_all; done)) <;> (try omega)) (by simp [h3, hlt, q0, q1, q2, q3, q4, q5, xle, xfz])) ?_
 have p7 := zdh T6 [118, 111, 105, 99, 101, 115] b.voices [[112, 101, 114], [109, 105, 108, 108, 101]]
 obtain ⟨T7, e7⟩ : ∃ T7, T7 = T6 ++ zb7 [118, 111, 105, 99, 101, 115] b.voices [[112, 101, 114], [109, 105, 108, 108, 101]] := ⟨_, rfl⟩
 have l7 : (zb7 [118, 111, 105, 99, 101, 115] b.voices [[112, 101, 114], [109, 105, 108, 108, 101]]).length ≤ 100 := zdk (by omega) (by omega) (by decide)
 have m7 : T7.length ≤ T6.length + 100 := by rw [e7, List.length_append]; omega
 rw [← e7] at p7
 repeat' (first
  | (refine zaf ?_; simp [x0, x1, x2, x3, x4, x5, x6, x7, x8, x9, x10, x11, x12, x13, x14, x15, x16, x17, x18, x19, x20, x21, x22, x23, x24, x25, x26, x27, x28, x29, x30, x31, x32, x33, x34, x35, x36, xfz])
  | (refine zah ?_; simp [x0, x1, x2, x3, x4, x5, x6, x7, x8, x9, x10, x11, x12, x13, x14, x15, x16, x17, x18, x19, x20, x21, x22, x23, x24, x25, x26, x27, x28, x29, x30, x31, x32, x33, x34, x35, x36, xfz])
  | (refine zaq (by first | rfl | fail) ?_; simp [x0, x1, x2, x3, x4, x5, x6, x7, x8, x9, x10, x11, x12, x13, x14, x15, x16, x17, x18, x19, x20, x21, x22, x23, x24, x25, x26, x27, x28, x29, x30, x31, x32, x33, x34, x35, x36, xfz, frzN, frz1, zay, zax, St.frz, St.frzS, frzS, fv, zaz, za5, za8, zaF, zat, zaj, del, frz, za9])
  | fail)
 refine CallP.okE (p7 3 _ (by omega) (by first | omega | (simp; done) | (simp; omega) | fail) (by omega) (by omega) (by omega) (by simp)) (by first | (simp [zaa, getK, zab, zac]; done) | fail) (by rfl) (by first | assumption | (simp; done) | fail) (by rfl) (by simp) ?_
 rintro d o N hN ⟨rfl, j', h3, hlt, hge, rfl⟩
 simp at hge
 have q0 : ¬ j' = 0 := by omega
 have q1 : ¬ j' = 1 := by omega
 have q2 : ¬ j' = 2 := by omega
 have q3 : ¬ 0 = j' := by omega
 have q4 : ¬ 1 = j' := by omega
 have q5 : ¬ 2 = j' := by omega
 simp [zdf, del]
 refine zal ?_
 simp only [zao]
 refine zhw { n := 118, env := [(1, .ptr 0 0), (4, .ptr 1 0), (5, .ptr 2 0), (6, .fnc (.func 55) [.ptr 2 0]), (7, .fnc (.func 57) [.ptr 2 0])], obs := [(0, .box CL), (2, zce), (1, zdo 3 T7), (3, zdn T7)], next := 4 } (Wk.ren ((fun x => if x = 3 then j' else x)) rfl (by first | (simp [hn]; done) | (intro i hi; rw [hn] at hi; constructor <;> (try simp) <;> (try (intro _)) <;> omega)) (by simp [zgj, St.lp, zan, zaa, getK, zac, zak, D.under, D.le, D.ren, h3, hlt, q0, q1, q2, q3, q4, q5, xle, xfz] <;> (try (intros; simp_all; done)) <;> (try omega)) (by simp [wkR, St.lp, zaa, getK, zac, zak, obR, leU, zbk, zaU, Ob.under, D.under, D.le, D.ren, h3, hlt, q0, q1, q2, q3, q4, q5, xle, xfz] <;> (try (intros; simp_all; done)) <;> (try omega)) (by simp [h3, hlt, q0, q1, q2, q3, q4, q5, xle, xfz])) ?_
 have p8 := zdh T7 [106, 117, 114, 121] b.jury []
 obtain ⟨T8, e8⟩ : ∃ T8, T8 = T7 ++ zb7 [106, 117, 114, 121] b.jury [] := ⟨_, rfl⟩
 have l8 : (zb7 [106, 117, 114, 121] b.jury []).length ≤ 100 := zdk (by omega) (by omega) (by decide)
 have m8 : T8.length ≤ T7.length + 100 := by rw [e8, List.length_append]; omega
 rw [← e8] at p8
 repeat' (first
  | (refine zaf ?_; simp [x0, x1, x2, x3, x4, x5, x6, x7, x8, x9, x10, x11, x12, x13, x14, x15, x16, x17, x18, x19, x20, x21, x22, x23, x24, x25, x26, x27, x28, x29, x30, x31, x32, x33, x34, x35, x36, xfz])
  | (refine zah ?_; simp [x0, x1, x2, x3, x4, x5, x6, x7, x8, x9, x10, x11, x12, x13, x14, x15, x16, x17, x18, x19, x20, x21, x22, x23, x24, x25, x26, x27, x28, x29, x30, x31, x32, x33, x34, x35, x36, xfz])
  | fail)
 refine CallP.okE (zkG (p8 3 _ (by omega) (by first | omega | (simp; done) | (simp; omega) | fail) (by omega) (by omega) (by omega) (by simp))) (by first | (simp [zaa, getK, zab, zac]; done) | fail) (by rfl) (by first | assumption | (simp; done) | fail) (by rfl) (by simp) ?_
 rintro d o N hN ⟨rfl, j', h3, hlt, hge, rfl⟩
 simp at hge
 have q0 : ¬ j' = 0 := by omega
 have q1 : ¬ j' = 1 := by omega
 have q2 : ¬ j' = 2 := by omega
 have q3 : ¬ 0 = j' := by omega
 have q4 : ¬ 1 = j' := by omega
 have q5 : ¬ 2 = j' := by omega
 simp [zdf, del]
 refine zal ?_
 simp only [zao]
 refine zhw { n := 118, env := [(1, .ptr 0 0), (4, .ptr 1 0), (5, .ptr 2 0), (6, .fnc (.func 55) [.ptr 2 0]), (7, .fnc (.func 57) [.ptr 2 0])], obs := [(0, .box CL), (2, zce), (1, zdo 3 T8), (3, zdn T8)], next := 4 } (Wk.ren ((fun x => if x = 3 then j' else x)) rfl (by first | (simp [hn]; done) | (intro i hi; rw [hn] at hi; constructor <;> (try simp) <;> (try (intro _)) <;> omega)) (by simp [zgj, St.lp, zan, zaa, getK, zac, zak, D.under, D.le, D.ren, h3, hlt, q0, q1, q2, q3, q4, q5, xle, xfz] <;> (try (intros; simp_all; done)) <;> (try omega)) (by simp [wkR, St.lp, zaa, getK, zac, zak, obR, leU, zbk, zaU, Ob.under, D.under, D.le, D.ren, h3, hlt, q0, q1, q2, q3, q4, q5, xle, xfz] <;> (try (intros; simp_all; done)) <;> (try omega)) (by simp [h3, hlt, q0, q1, q2, q3, q4, q5, xle, xfz])) ?_
 have p9 := zdh T8 [102, 117, 110, 100] b.fund [[112, 101, 114], [109, 105, 108, 108, 101]]
 obtain ⟨T9, e9⟩ : ∃ T9, T9 = T8 ++ zb7 [102, 117, 110, 100] b.fund [[112, 101, 114], [109, 105, 108, 108, 101]] := ⟨_, rfl⟩
 have l9 : (zb7 [102, 117, 110, 100] b.fund [[112, 101, 114], [109, 105, 108, 108, 101]]).length ≤ 100 := zdk (by omega) (by omega) (by decide)
 have m9 : T9.length ≤ T8.length + 100 := by rw [e9, List.length_append]; omega
 rw [← e9] at p9
 repeat' (first
  | (refine zaf ?_; simp [x0, x1, x2, x3, x4, x5, x6, x7, x8, x9, x10, x11, x12, x13, x14, x15, x16, x17, x18, x19, x20, x21, x22, x23, x24, x25, x26, x27, x28, x29, x30, x31, x32, x33, x34, x35, x36, xfz])
  | (refine zah ?_; simp [x0, x1, x2, x3, x4, x5, x6, x7, x8, x9, x10, x11, x12, x13, x14, x15, x16, x17, x18, x19, x20, x21, x22, x23, x24, x25, x26, x27, x28, x29, x30, x31, x32, x33, x34, x35, x36, xfz])
  | (refine zaq (by first | rfl | fail) ?_; simp [x0, x1, x2, x3, x4, x5, x6, x7, x8, x9, x10, x11, x12, x13, x14, x15, x16, x17, x18, x19, x20, x21, x22, x23, x24, x25, x26, x27, x28, x29, x30, x31, x32, x33, x34, x35, x36, xfz, frzN, frz1, zay, zax, St.frz, St.frzS, frzS, fv, zaz, za5, za8, zaF, zat, zaj, del, frz, za9])
  | fail)
 refine CallP.okE (p9 3 _ (by omega) (by first | omega | (simp; done) | (simp; omega) | fail) (by omega) (by omega) (by omega) (by simp)) (by first | (simp [zaa, getK, zab, zac]; done) | fail) (by rfl) (by first | assumption | (simp; done) | fail) (by rfl) (by simp) ?_
 rintro d o N hN ⟨rfl, j', h3, hlt, hge, rfl⟩
 simp at hge
 have q0 : ¬ j' = 0 := by omega
 have q1 : ¬ j' = 1 := by omega
 have q2 : ¬ j' = 2 := by omega
 have q3 : ¬ 0 = j' := by omega
 have q4 : ¬ 1 = j' := by omega
 have q5 : ¬ 2 = j' := by omega
 simp [zdf, del]
 refine zal ?_
 simp only [zao]
 refine zhw { n := 118, env := [(1, .ptr 0 0), (4, .ptr 1 0), (5, .ptr 2 0), (6, .fnc (.func 55) [.ptr 2 0]), (7, .fnc (.func 57) [.ptr 2 0])], obs := [(0, .box CL), (2, zce), (1, zdo 3 T9), (3, zdn T9)], next := 4 } (Wk.ren ((fun x => if x = 3 then j' else x)) rfl (by first | (simp [hn]; done) | (intro i hi; rw [hn] at hi; constructor <;> (try simp) <;> (try (intro _)) <;> omega)) (by simp [zgj, St.lp, zan, zaa, getK, zac, zak, D.under, D.le, D.ren, h3, hlt, q0, q1, q2, q3, q4, q5, xle, xfz] <;> (try (intros; simp_all; done)) <;> (try omega)) (by simp [wkR, St.lp, zaa, getK, zac, zak, obR, leU, zbk, zaU, Ob.under, D.under, D.le, D.ren, h3, hlt, q0, q1, q2, q3, q4, q5, xle, xfz] <;> (try (intros; simp_all; done)) <;> (try omega)) (by simp [h3, hlt, q0, q1, q2, q3, q4, q5, xle, xfz])) ?_
 obtain ⟨F, eF⟩ : ∃ F : Nat → W8, F = fun i => T9 ++ zfn (b.lets.take i) := ⟨_, rfl⟩
 have hF0 : F 0 = T9 := by rw [eF]; simp [zfn]
 have hFs : ∀ i l, b.lets[i]? = some l → F (i + 1) = F i ++ zo0 l := fun i l h => by rw [eF]; simp only; rw [zmg h, List.append_assoc]
 have hFl : ∀ i, i ≤ b.lets.length → (F i).length ≤ T9.length + 2000000000 := fun i hi => by
  rw [eF]
  have h1 := zjN (b.lets.take i) fun l hl => hLs l (List.mem_of_mem_take hl)
  simp only [List.length_append, List.length_take] at h1 ⊢
  omega
 obtain ⟨T10, e10⟩ : ∃ T10, T10 = F b.lets.length := ⟨_, rfl⟩
 have m10 : T10.length ≤ T9.length + 2000000000 := by rw [e10]; exact hFl _ (Nat.le_refl _)
 have eL : T10 = T9 ++ zfn b.lets := by rw [e10, eF]; simp only; rw [List.take_length]
 clear eF
 repeat' (first
  | (refine zaf ?_; simp [x0, x1, x2, x3, x4, x5, x6, x7, x8, x9, x10, x11, x12, x13, x14, x15, x16, x17, x18, x19, x20, x21, x22, x23, x24, x25, x26, x27, x28, x29, x30, x31, x32, x33, x34, x35, x36, xfz])
  | (refine zal ?_; simp [x0, x1, x2, x3, x4, x5, x6, x7, x8, x9, x10, x11, x12, x13, x14, x15, x16, x17, x18, x19, x20, x21, x22, x23, x24, x25, x26, x27, x28, x29, x30, x31, x32, x33, x34, x35, x36, xfz])
  | (refine zah ?_; simp [x0, x1, x2, x3, x4, x5, x6, x7, x8, x9, x10, x11, x12, x13, x14, x15, x16, x17, x18, x19, x20, x21, x22, x23, x24, x25, x26, x27, x28, x29, x30, x31, x32, x33, x34, x35, x36, xfz])
  | (refine zaA ?_; simp [x0, x1, x2, x3, x4, x5, x6, x7, x8, x9, x10, x11, x12, x13, x14, x15, x16, x17, x18, x19, x20, x21, x22, x23, x24, x25, x26, x27, x28, x29, x30, x31, x32, x33, x34, x35, x36, xfz])
  | fail)
 refine zdY (α := { i : Nat // i ≤ b.lets.length }) [1, 4, 5, 7, 79, 80] (fun x => [(81, .u (.int .i64 x.1))]) (fun x => [(0, .box CL), (2, zce), (1, zdo 3 (F x.1)), (3, zdn (F x.1))]) 4 (fun x => b.lets.length - x.1) ⟨0, by omega⟩ ?_ ?_
 ·exact (Wk.cut rfl (by simp [hn, St.lp]) (by simp [wkO, St.lp, zaa, getK, Ob.under, D.under, zad, zae, xle, xun, hF0]) (by simp [wkU, St.lp, zan, zaa, getK, D.under, xle, xun, hF0]) (by simp [wkE, St.lp, zan, zaa, getK, xle, xun, hF0] <;> (try (intros; simp_all; done)) <;> (try (intros; omega)) <;> (try grind)))
 rintro ⟨i, hi⟩
 have hFi := hFl i hi
 simp [St.lp, St.only, zan, zaa, getK]
 rcases hx : b.lets[i]? with _ | l
 case some =>
  have hlt : i < b.lets.length := (List.getElem?_eq_some_iff.1 hx).1
  obtain ⟨hln, hlr⟩ := hLs l (List.mem_of_getElem? hx)
  have hn20 := ziy hln
  have htl := zcD hlr (Nat.le_refl _) 0
  have hsh := zgu 12 (Nat.le_refl _) l.body hlr 0
  rw [Exp.row_eq] at hsh
  have hnx := hFs i l hx
  rw [zo0] at hnx
  have hlw := zlh hln hlr
  rw [zo0] at hlw
  have hw := fun nx (h : 4 ≤ nx) => zg5 (F i) [[108, 101, 116], l.name, [61], txt l.body 0] 3 nx (by omega) (by omega) (by omega) (by simp)
  rw [← hnx] at hw
  simp only [List.map_cons, List.map_nil] at hw
  generalize txt l.body 0 = TB at *
  generalize hFN : F (i + 1) = FN at *
  generalize hFI : F i = FI at *
  repeat' (first
  | (refine zdy ?_; simp [x0, x1, x2, x3, x4, x5, x6, x7, x8, x9, x10, x11, x12, x13, x14, x15, x16, x17, x18, x19, x20, x21, x22, x23, x24, x25, x26, x27, x28, x29, x30, x31, x32, x33, x34, x35, x36, xfz, hx])
  | (refine zel rfl rfl (by decide +kernel) (by first | (simp [hn]; done) | (simp [hn]; omega) | fail) fun C k hC hk => ?_; simp [x0, x1, x2, x3, x4, x5, x6, x7, x8, x9, x10, x11, x12, x13, x14, x15, x16, x17, x18, x19, x20, x21, x22, x23, x24, x25, x26, x27, x28, x29, x30, x31, x32, x33, x34, x35, x36, xfz, hx])
  | (refine zaf ?_; simp [x0, x1, x2, x3, x4, x5, x6, x7, x8, x9, x10, x11, x12, x13, x14, x15, x16, x17, x18, x19, x20, x21, x22, x23, x24, x25, x26, x27, x28, x29, x30, x31, x32, x33, x34, x35, x36, xfz, hx])
  | (refine zbt rfl ?_; simp [x0, x1, x2, x3, x4, x5, x6, x7, x8, x9, x10, x11, x12, x13, x14, x15, x16, x17, x18, x19, x20, x21, x22, x23, x24, x25, x26, x27, x28, x29, x30, x31, x32, x33, x34, x35, x36, xfz, hx])
  | (refine zcc rfl ?_; simp [x0, x1, x2, x3, x4, x5, x6, x7, x8, x9, x10, x11, x12, x13, x14, x15, x16, x17, x18, x19, x20, x21, x22, x23, x24, x25, x26, x27, x28, x29, x30, x31, x32, x33, x34, x35, x36, xfz, hx])
  | (refine zal ?_; simp [x0, x1, x2, x3, x4, x5, x6, x7, x8, x9, x10, x11, x12, x13, x14, x15, x16, x17, x18, x19, x20, x21, x22, x23, x24, x25, x26, x27, x28, x29, x30, x31, x32, x33, x34, x35, x36, xfz, hx])
  | (refine ⟨by omega, ?_⟩)
  | (refine zah ?_; simp [x0, x1, x2, x3, x4, x5, x6, x7, x8, x9, x10, x11, x12, x13, x14, x15, x16, x17, x18, x19, x20, x21, x22, x23, x24, x25, x26, x27, x28, x29, x30, x31, x32, x33, x34, x35, x36, xfz, hx])
  | (refine zbQ (hC _ (by kernel_rfl)) (hk _ ?_); clear hC hk C k; simp only [zao])
  | (refine zaC ?_; simp [x0, x1, x2, x3, x4, x5, x6, x7, x8, x9, x10, x11, x12, x13, x14, x15, x16, x17, x18, x19, x20, x21, x22, x23, x24, x25, x26, x27, x28, x29, x30, x31, x32, x33, x34, x35, x36, xfz, hx])
  | (refine zap ?_; simp only [zao])
  | (refine ⟨?_, by omega⟩)
  | (intro hc <;> (try (exfalso; omega)))
  | (refine CallV.fun_ (hsh) (by first | rfl | fail) (by first | (simp [x0, x1, x2, x3, x4, x5, x6, x7, x8, x9, x10, x11, x12, x13, x14, x15, x16, x17, x18, x19, x20, x21, x22, x23, x24, x25, x26, x27, x28, x29, x30, x31, x32, x33, x34, x35, x36, xfz, hx]; done) | (simp [x0, x1, x2, x3, x4, x5, x6, x7, x8, x9, x10, x11, x12, x13, x14, x15, x16, x17, x18, x19, x20, x21, x22, x23, x24, x25, x26, x27, x28, x29, x30, x31, x32, x33, x34, x35, x36, xfz, hx]; rfl) | fail) ⟨by first | assumption | (simp; done) | fail, by simp, ?_⟩ <;> (try simp [x0, x1, x2, x3, x4, x5, x6, x7, x8, x9, x10, x11, x12, x13, x14, x15, x16, x17, x18, x19, x20, x21, x22, x23, x24, x25, x26, x27, x28, x29, x30, x31, x32, x33, x34, x35, x36, xfz, hx]))
  | (refine zaq (by first | rfl | fail) ?_; simp [x0, x1, x2, x3, x4, x5, x6, x7, x8, x9, x10, x11, x12, x13, x14, x15, x16, x17, x18, x19, x20, x21, x22, x23, x24, x25, x26, x27, x28, x29, x30, x31, x32, x33, x34, x35, x36, xfz, hx, frzN, frz1, zay, zax, St.frz, St.frzS, frzS, fv, zaz, za5, za8, zaF, zat, zaj, del, frz, za9])
  | (refine CallP.okL (hw _ (by first | omega | (simp; done) | (simp; omega) | fail)) (by first | (simp [x0, x1, x2, x3, x4, x5, x6, x7, x8, x9, x10, x11, x12, x13, x14, x15, x16, x17, x18, x19, x20, x21, x22, x23, x24, x25, x26, x27, x28, x29, x30, x31, x32, x33, x34, x35, x36, xfz, hx, zaa, getK, zab, zac, zak, zaJ, del]; done) | fail) (by rfl) (by rfl) ⟨by first | assumption | (simp; done) | fail, by simp, ?_⟩; (try simp [x0, x1, x2, x3, x4, x5, x6, x7, x8, x9, x10, x11, x12, x13, x14, x15, x16, x17, x18, x19, x20, x21, x22, x23, x24, x25, x26, x27, x28, x29, x30, x31, x32, x33, x34, x35, x36, xfz, hx, zdf, del]))
  | fail)
  refine LoopW.next ⟨i + 1, by omega⟩ (by simp; omega) ?_
  exact (Wk.ren ((fun x => if x = 3 then 6 else x)) rfl (by first | (simp [hn]; done) | (intro i hi; rw [hn] at hi; constructor <;> (try simp) <;> (try (intro _)) <;> omega)) (by simp [zgj, St.lp, zan, zaa, getK, zac, zak, D.under, D.le, D.ren, xle, xfz, xun, hFN] <;> (try (intros; simp_all; done)) <;> (try omega)) (by simp [wkR, St.lp, zaa, getK, zac, zak, obR, leU, zbk, zaU, Ob.under, D.under, D.le, D.ren, xle, xfz, xun, hFN] <;> (try (intros; simp_all; done)) <;> (try omega)) (by simp [xle, xfz, xun, hFN]))
 case none =>
 have hge : b.lets.length ≤ i := by simpa using hx
 obtain rfl : i = b.lets.length := by omega
 rw [← e10]
 clear hFs hFl hFi hx
 have p11 := zdm T10 [100, 117, 101] b.due
 rw [Exp.row_eq] at p11
 obtain ⟨T11, e11⟩ : ∃ T11, T11 = T10 ++ clauseT [100, 117, 101] b.due := ⟨_, rfl⟩
 have m11 : T11.length ≤ T10.length + 60000000 := by rw [e11, List.length_append]; have := zdK (w := [100, 117, 101]) (by decide) hrdue; omega
 rw [← e11] at p11
 repeat' (first
  | (refine zaf ?_; simp [y12, z12, xfz])
  | (refine zal ?_; simp [y12, z12, xfz])
  | (refine zah ?_; simp [y12, z12, xfz])
  | (refine zbR ?_; simp [zao])
  | fail)
 refine CallP.okE (p11 3 _ (by omega) (by first | omega | (simp; done) | (simp; omega) | fail) hrdue (by simp; omega)) (by first | (simp [zaa, getK, zab, zac]; done) | fail) (by rfl) (by first | assumption | (simp; done) | fail) (by rfl) (by simp) ?_
 rintro d o N hN ⟨rfl, j', h3, hlt, hge, rfl⟩
 simp at hge
 have q0 : ¬ j' = 0 := by omega
 have q1 : ¬ j' = 1 := by omega
 have q2 : ¬ j' = 2 := by omega
 have q3 : ¬ 0 = j' := by omega
 have q4 : ¬ 1 = j' := by omega
 have q5 : ¬ 2 = j' := by omega
 simp [zdf, del]
 refine zal ?_
 simp only [zao]
 refine zhw { n := 118, env := [(1, .ptr 0 0), (4, .ptr 1 0), (5, .ptr 2 0), (7, .fnc (.func 57) [.ptr 2 0])], obs := [(0, .box CL), (2, zce), (1, zdo 3 T11), (3, zdn T11)], next := 4 } (Wk.ren ((fun x => if x = 3 then j' else x)) rfl (by first | (simp [hn]; done) | (intro i hi; rw [hn] at hi; constructor <;> (try simp) <;> (try (intro _)) <;> omega)) (by simp [zgj, St.lp, zan, zaa, getK, zac, zak, D.under, D.le, D.ren, h3, hlt, q0, q1, q2, q3, q4, q5, xle, xfz] <;> (try (intros; simp_all; done)) <;> (try omega)) (by simp [wkR, St.lp, zaa, getK, zac, zak, obR, leU, zbk, zaU, Ob.under, D.under, D.le, D.ren, h3, hlt, q0, q1, q2, q3, q4, q5, xle, xfz] <;> (try (intros; simp_all; done)) <;> (try omega)) (by simp [h3, hlt, q0, q1, q2, q3, q4, q5, xle, xfz])) ?_
 have p12 := zdm T11 [102, 105, 110, 101] b.fine
 rw [Exp.row_eq] at p12
 obtain ⟨T12, e12⟩ : ∃ T12, T12 = T11 ++ clauseT [102, 105, 110, 101] b.fine := ⟨_, rfl⟩
 have m12 : T12.length ≤ T11.length + 60000000 := by rw [e12, List.length_append]; have := zdK (w := [102, 105, 110, 101]) (by decide) hrfine; omega
 rw [← e12] at p12
 repeat' (first
  | (refine zaf ?_; simp [y17, z17, xfz])
  | (refine zah ?_; simp [y17, z17, xfz])
  | fail)
 refine CallP.okE (p12 3 _ (by omega) (by first | omega | (simp; done) | (simp; omega) | fail) hrfine (by simp; omega)) (by first | (simp [zaa, getK, zab, zac]; done) | fail) (by rfl) (by first | assumption | (simp; done) | fail) (by rfl) (by simp) ?_
 rintro d o N hN ⟨rfl, j', h3, hlt, hge, rfl⟩
 simp at hge
 have q0 : ¬ j' = 0 := by omega
 have q1 : ¬ j' = 1 := by omega
 have q2 : ¬ j' = 2 := by omega
 have q3 : ¬ 0 = j' := by omega
 have q4 : ¬ 1 = j' := by omega
 have q5 : ¬ 2 = j' := by omega
 simp [zdf, del]
 refine zal ?_
 simp only [zao]
 refine zhw { n := 118, env := [(1, .ptr 0 0), (4, .ptr 1 0), (5, .ptr 2 0), (7, .fnc (.func 57) [.ptr 2 0])], obs := [(0, .box CL), (2, zce), (1, zdo 3 T12), (3, zdn T12)], next := 4 } (Wk.ren ((fun x => if x = 3 then j' else x)) rfl (by first | (simp [hn]; done) | (intro i hi; rw [hn] at hi; constructor <;> (try simp) <;> (try (intro _)) <;> omega)) (by simp [zgj, St.lp, zan, zaa, getK, zac, zak, D.under, D.le, D.ren, h3, hlt, q0, q1, q2, q3, q4, q5, xle, xfz] <;> (try (intros; simp_all; done)) <;> (try omega)) (by simp [wkR, St.lp, zaa, getK, zac, zak, obR, leU, zbk, zaU, Ob.under, D.under, D.le, D.ren, h3, hlt, q0, q1, q2, q3, q4, q5, xle, xfz] <;> (try (intros; simp_all; done)) <;> (try omega)) (by simp [h3, hlt, q0, q1, q2, q3, q4, q5, xle, xfz])) ?_
 have p13 := zdm T12 [112, 97, 121] b.pay
 rw [Exp.row_eq] at p13
 obtain ⟨T13, e13⟩ : ∃ T13, T13 = T12 ++ clauseT [112, 97, 121] b.pay := ⟨_, rfl⟩
 have m13 : T13.length ≤ T12.length + 60000000 := by rw [e13, List.length_append]; have := zdK (w := [112, 97, 121]) (by decide) hrpay; omega
 rw [← e13] at p13
 repeat' (first
  | (refine zaf ?_; simp [y22, z22, xfz])
  | (refine zah ?_; simp [y22, z22, xfz])
  | fail)
 refine CallP.okE (p13 3 _ (by omega) (by first | omega | (simp; done) | (simp; omega) | fail) hrpay (by simp; omega)) (by first | (simp [zaa, getK, zab, zac]; done) | fail) (by rfl) (by first | assumption | (simp; done) | fail) (by rfl) (by simp) ?_
 rintro d o N hN ⟨rfl, j', h3, hlt, hge, rfl⟩
 simp at hge
 have q0 : ¬ j' = 0 := by omega
 have q1 : ¬ j' = 1 := by omega
 have q2 : ¬ j' = 2 := by omega
 have q3 : ¬ 0 = j' := by omega
 have q4 : ¬ 1 = j' := by omega
 have q5 : ¬ 2 = j' := by omega
 simp [zdf, del]
 refine zal ?_
 simp only [zao]
 refine zhw { n := 118, env := [(1, .ptr 0 0), (4, .ptr 1 0), (5, .ptr 2 0), (7, .fnc (.func 57) [.ptr 2 0])], obs := [(0, .box CL), (2, zce), (1, zdo 3 T13), (3, zdn T13)], next := 4 } (Wk.ren ((fun x => if x = 3 then j' else x)) rfl (by first | (simp [hn]; done) | (intro i hi; rw [hn] at hi; constructor <;> (try simp) <;> (try (intro _)) <;> omega)) (by simp [zgj, St.lp, zan, zaa, getK, zac, zak, D.under, D.le, D.ren, h3, hlt, q0, q1, q2, q3, q4, q5, xle, xfz] <;> (try (intros; simp_all; done)) <;> (try omega)) (by simp [wkR, St.lp, zaa, getK, zac, zak, obR, leU, zbk, zaU, Ob.under, D.under, D.le, D.ren, h3, hlt, q0, q1, q2, q3, q4, q5, xle, xfz] <;> (try (intros; simp_all; done)) <;> (try omega)) (by simp [h3, hlt, q0, q1, q2, q3, q4, q5, xle, xfz])) ?_
 have p14 := zdm T13 [99, 111, 118, 101, 114] b.cover
 rw [Exp.row_eq] at p14
 obtain ⟨T14, e14⟩ : ∃ T14, T14 = T13 ++ clauseT [99, 111, 118, 101, 114] b.cover := ⟨_, rfl⟩
 have m14 : T14.length ≤ T13.length + 60000000 := by rw [e14, List.length_append]; have := zdK (w := [99, 111, 118, 101, 114]) (by decide) hrcover; omega
 rw [← e14] at p14
 repeat' (first
  | (refine zaf ?_; simp [y27, z27, xfz])
  | (refine zah ?_; simp [y27, z27, xfz])
  | fail)
 refine CallP.okE (p14 3 _ (by omega) (by first | omega | (simp; done) | (simp; omega) | fail) hrcover (by simp; omega)) (by first | (simp [zaa, getK, zab, zac]; done) | fail) (by rfl) (by first | assumption | (simp; done) | fail) (by rfl) (by simp) ?_
 rintro d o N hN ⟨rfl, j', h3, hlt, hge, rfl⟩
 simp at hge
 have q0 : ¬ j' = 0 := by omega
 have q1 : ¬ j' = 1 := by omega
 have q2 : ¬ j' = 2 := by omega
 have q3 : ¬ 0 = j' := by omega
 have q4 : ¬ 1 = j' := by omega
 have q5 : ¬ 2 = j' := by omega
 simp [zdf, del]
 refine zal ?_
 simp only [zao]
 refine zhw { n := 118, env := [(1, .ptr 0 0), (4, .ptr 1 0), (5, .ptr 2 0), (7, .fnc (.func 57) [.ptr 2 0])], obs := [(0, .box CL), (2, zce), (1, zdo 3 T14), (3, zdn T14)], next := 4 } (Wk.ren ((fun x => if x = 3 then j' else x)) rfl (by first | (simp [hn]; done) | (intro i hi; rw [hn] at hi; constructor <;> (try simp) <;> (try (intro _)) <;> omega)) (by simp [zgj, St.lp, zan, zaa, getK, zac, zak, D.under, D.le, D.ren, h3, hlt, q0, q1, q2, q3, q4, q5, xle, xfz] <;> (try (intros; simp_all; done)) <;> (try omega)) (by simp [wkR, St.lp, zaa, getK, zac, zak, obR, leU, zbk, zaU, Ob.under, D.under, D.le, D.ren, h3, hlt, q0, q1, q2, q3, q4, q5, xle, xfz] <;> (try (intros; simp_all; done)) <;> (try omega)) (by simp [h3, hlt, q0, q1, q2, q3, q4, q5, xle, xfz])) ?_
 have p15 := zdm T14 [104, 111, 108, 100] b.hold
 rw [Exp.row_eq] at p15
 obtain ⟨T15, e15⟩ : ∃ T15, T15 = T14 ++ clauseT [104, 111, 108, 100] b.hold := ⟨_, rfl⟩
 have m15 : T15.length ≤ T14.length + 60000000 := by rw [e15, List.length_append]; have := zdK (w := [104, 111, 108, 100]) (by decide) hrhold; omega
 rw [← e15] at p15
 repeat' (first
  | (refine zaf ?_; simp [y32, z32, xfz])
  | (refine zah ?_; simp [y32, z32, xfz])
  | fail)
 refine CallP.okE (p15 3 _ (by omega) (by first | omega | (simp; done) | (simp; omega) | fail) hrhold (by simp; omega)) (by first | (simp [zaa, getK, zab, zac]; done) | fail) (by rfl) (by first | assumption | (simp; done) | fail) (by rfl) (by simp) ?_
 rintro d o N hN ⟨rfl, j', h3, hlt, hge, rfl⟩
 simp at hge
 have q0 : ¬ j' = 0 := by omega
 have q1 : ¬ j' = 1 := by omega
 have q2 : ¬ j' = 2 := by omega
 have q3 : ¬ 0 = j' := by omega
 have q4 : ¬ 1 = j' := by omega
 have q5 : ¬ 2 = j' := by omega
 simp [zdf, del]
 refine zal ?_
 simp only [zao]
 refine zhw { n := 118, env := [(1, .ptr 0 0), (4, .ptr 1 0), (5, .ptr 2 0), (7, .fnc (.func 57) [.ptr 2 0])], obs := [(0, .box CL), (2, zce), (1, zdo 3 T15), (3, zdn T15)], next := 4 } (Wk.ren ((fun x => if x = 3 then j' else x)) rfl (by first | (simp [hn]; done) | (intro i hi; rw [hn] at hi; constructor <;> (try simp) <;> (try (intro _)) <;> omega)) (by simp [zgj, St.lp, zan, zaa, getK, zac, zak, D.under, D.le, D.ren, h3, hlt, q0, q1, q2, q3, q4, q5, xle, xfz] <;> (try (intros; simp_all; done)) <;> (try omega)) (by simp [wkR, St.lp, zaa, getK, zac, zak, obR, leU, zbk, zaU, Ob.under, D.under, D.le, D.ren, h3, hlt, q0, q1, q2, q3, q4, q5, xle, xfz] <;> (try (intros; simp_all; done)) <;> (try omega)) (by simp [h3, hlt, q0, q1, q2, q3, q4, q5, xle, xfz])) ?_
 have hTT : TT = T15 := by
  rw [← hT, textP, e15, e14, e13, e12, e11, eL, e9, e8, e7, e6, e5, e4, e3, e2, e1, e0]
 have n0 : 0 < T0.length := by rw [e0, ziA, zbP]; simp
 have hge : T0.length ≤ T15.length := by
  simp only [e15, e14, e13, e12, e11, eL, e9, e8, e7, e6, e5, e4, e3, e2, e1, List.length_append]
  omega
 have hne0 : T15 ≠ [] := fun h => by rw [h] at hge; simp at hge; rw [hge] at n0; simp at n0
 rw [hTT]
 have hst := fun nx (h : 4 ≤ nx) => zlP 1 3 nx (by omega) (by omega) (by decide) T15 hne0
 have hft := zlv T15
 by_cases hbig : 2000 < T15.length
 ·rw [if_pos hbig] at hft ⊢
  repeat' (first
  | (refine zaf ?_; simp [xfz])
  | (refine zal ?_; simp [xfz])
  | (refine zah ?_; simp [xfz])
  | (refine zar ?_; simp only [zao])
  | (refine CallP.fE (hft) (by first | rfl | fail) (by first | (simp [xfz]; done) | (simp [xfz]; rfl) | fail) ⟨by first | assumption | (simp; done) | fail, by simp, ?_⟩; (try simp [xfz]))
  | (refine CallP.okL (hst _ (by first | omega | (simp; done) | (simp; omega) | fail)) (by first | (simp [xfz, zaa, getK, zab, zac, zak, zaJ, del]; done) | fail) (by rfl) (by rfl) ⟨by first | assumption | (simp; done) | fail, by simp, ?_⟩; (try simp [xfz, zdf, del]))
  | fail)
  (refine EndW.here ?_; (first | (refine EndOK.fin (.inr rfl) ?_) | (refine EndOK.fin (.inl rfl) ?_)); simp [zaL, zag, Tryz.results19]; refine FinOK.here (by simp) ?_; try simp)
 ·rw [if_neg hbig] at hft ⊢
  repeat' (first
  | (refine zaf ?_; simp [xfz])
  | (refine zal ?_; simp [xfz])
  | (refine zah ?_; simp [xfz])
  | (refine zar ?_; simp only [zao])
  | (refine CallP.fE (hft) (by first | rfl | fail) (by first | (simp [xfz]; done) | (simp [xfz]; rfl) | fail) ⟨by first | assumption | (simp; done) | fail, by simp, ?_⟩; (try simp [xfz]))
  | (refine CallP.okL (hst _ (by first | omega | (simp; done) | (simp; omega) | fail)) (by first | (simp [xfz, zaa, getK, zab, zac, zak, zaJ, del]; done) | fail) (by rfl) (by rfl) ⟨by first | assumption | (simp; done) | fail, by simp, ?_⟩; (try simp [xfz, zdf, del]))
  | fail)
  (refine EndW.here ?_; (first | (refine EndOK.fin (.inr rfl) ?_) | (refine EndOK.fin (.inl rfl) ?_)); simp [zaL, zag, Tryz.results19]; refine FinOK.here (by simp) ?_; try simp)
theorem zji (b : By) : Fun Tryz.prog 19 [.u (.agg (zbc b))] (· = .tup [.u (.str (printB b).1), .u (.int .i64 (printB b).2)]) := by
 cases hb : zca b with
 | true =>
  unfold Fun
  exact (zm6 b hb).ret (fun d o n h => by
   cases h
   exact ⟨by simp [zas], rfl⟩) (fun ch o n h => by cases h)
 | false =>
  have hri := zdG b
  rw [hb] at hri
  have hp : printB b = ([], 1) := by unfold printB; rw [if_neg (by simp [hb])]
  rw [hp]
  unfold zbc at hri ⊢
  (refine Fun.of_body Tryz.func19 rfl (by simp) fun Γ hn => ?_); simp only [entry, List.zipIdx_cons, List.zipIdx_nil, List.map_cons, List.map_nil, Nat.zero_add, Tryz.ntmps19]
  repeat' (first
  | (refine zaf ?_; simp)
  | (refine zal ?_; simp)
  | (refine zah ?_; simp)
  | (refine zai ?_; simp)
  | (refine zar ?_; simp only [zao])
  | (refine CallP.fE (hri) (by first | rfl | fail) (by first | (simp; done) | (simp; rfl) | fail) ?_; (try simp))
  | fail)
  (refine EndOK.val (.inr rfl) ?_; simp [zaL, zag, zas, Tryz.results19])
theorem znd (l : List Tok) (p : Nat) (i nx : Nat) (hi : i < nx) (hp : p < l.length) (hl : TokOK l) :
  RetX Tryz.prog 81 [.ptr i 0] [(i, pOb l p)] nx (PPost l i nx ziD (zew l p)) := by
 have hne := zaB hi
 have hll := hl.len
 have hor := zfR
 generalize hR : zew l p = R
 rw [zew] at hR
 have hh1 := fun nx' (h : nx ≤ nx') => zbg l p [111, 114, 100, 101, 114] i nx' (by omega) hp hl.len
 by_cases c1 : isB l p [111, 114, 100, 101, 114] = true
 ·have g1 := zbf hl c1
  rw [if_pos c1] at hR
  simp only [c1, if_true] at hh1
  have hix := fun nx' (h : nx ≤ nx') => zmp l (p + 1) ordersW i nx' (by omega) g1 hl
  have hat : atW l (p + 1) ordersW = ordersW.findIdx? fun w => isB l (p + 1) w := rfl
  rw [← hat] at hR
  obtain ⟨t, ht⟩ : ∃ t, l[p + 1]? = some t := ⟨_, List.getElem?_eq_getElem g1⟩
  have hpa : zc5 l (p + 1) = t.pos := by unfold zc5; rw [ht]
  rw [hpa] at hR
  cases hj : atW l (p + 1) ordersW with
  | none =>
   have hc2 := fun e nx' (h : nx ≤ nx') => zcS l (p + 1) t e i nx' (by omega) ht hl.len
   rw [hj] at hR hix
   simp only [Option.isSome_none, Bool.false_eq_true, if_false] at hR hix
   (refine RetX.of_bodyW Tryz.func81 rfl (by simp) fun Γ hn hpan => ?_); simp only [entry, List.zipIdx_cons, List.zipIdx_nil, List.map_cons, List.map_nil, Nat.zero_add, Tryz.ntmps81]
   repeat' (first
  | (refine zaf ?_; simp [hne, del, Nat.add_assoc])
  | (refine zal ?_; simp [hne, del, Nat.add_assoc])
  | (refine zah ?_; simp [hne, del, Nat.add_assoc])
  | (refine zai ?_; simp [hne, del, Nat.add_assoc])
  | (refine zap ?_; simp only [zao])
  | (refine CallP.fE (hor) (by first | rfl | fail) (by first | (simp [hne, del, Nat.add_assoc]; done) | (simp [hne, del, Nat.add_assoc]; rfl) | fail) ?_; (try simp [hne, del, Nat.add_assoc]))
  | (refine CallP.ok1 (hh1 _ (by first | omega | (simp; done) | (simp; omega) | fail)) (by first | (simp [hne, del, Nat.add_assoc, zaa, getK, zab, zac]; done) | fail) (by rfl) (by rfl) ?_; (try simp [hne, del, Nat.add_assoc]))
  | (refine CallP.ok1 (hix _ (by first | omega | (simp; done) | (simp; omega) | fail)) (by first | (simp [hne, del, Nat.add_assoc, zaa, getK, zab, zac]; done) | fail) (by rfl) (by rfl) ?_; (try simp [hne, del, Nat.add_assoc]))
  | (refine CallP.zeb (hc2 _ _ (by first | omega | (simp; done) | (simp; omega) | fail)) (by first | (simp [hne, del, Nat.add_assoc, zaa, getK, zab, zac]; done) | fail) (by rfl) (by first | assumption | (simp; done) | fail) (by rfl) (by simp) ?_; rintro ob' ⟨q', rfl⟩; refine ⟨_, Wk.refl _, ?_⟩)
  | fail)
   (refine hpan _ _ ⟨{ n := _, env := [], obs := [(i, pOb l q')], next := nx }, (Wk.cut rfl (by simp [hn]) (by simp [wkO, zaa, getK, zab, zac, Ob.under, D.under, zad, zae, hi, hne, zab, zac, zaa, getK]) (by simp [wkU, zan, zaa, getK, D.under, hi, hne, zab, zac, zaa, getK]) (by simp [wkE, zan, zaa, getK, hi, hne, zab, zac, zaa, getK])), by simp [hn], ?_⟩; try simp)
   exact PPost.zaw hR.symm
  | some j =>
   have g2 : p + 1 + 1 < l.length := by
    unfold atW at hj
    rw [List.findIdx?_eq_some_iff_getElem] at hj
    obtain ⟨_, hb, _⟩ := hj
    exact zbf hl hb
   have hj0 : (0 : Int) ≤ (j : Int) := by omega
   have hc1 := fun e nx' (h : nx ≤ nx') => zdU l (p + 1 + 1) e i nx' (by omega)
   rw [hj] at hR hix
   simp only [Option.isSome_some, if_true] at hR hix
   (refine RetX.of_bodyW Tryz.func81 rfl (by simp) fun Γ hn hpan => ?_); simp only [entry, List.zipIdx_cons, List.zipIdx_nil, List.map_cons, List.map_nil, Nat.zero_add, Tryz.ntmps81]
   repeat' (first
  | (refine zaf ?_; simp [hne, del, Nat.add_assoc, hj0])
  | (refine zal ?_; simp [hne, del, Nat.add_assoc, hj0])
  | (refine zah ?_; simp [hne, del, Nat.add_assoc, hj0])
  | (refine zai ?_; simp [hne, del, Nat.add_assoc, hj0])
  | (refine zap ?_; simp only [zao])
  | (refine CallP.fE (hor) (by first | rfl | fail) (by first | (simp [hne, del, Nat.add_assoc, hj0]; done) | (simp [hne, del, Nat.add_assoc, hj0]; rfl) | fail) ?_; (try simp [hne, del, Nat.add_assoc, hj0]))
  | (refine CallP.ok1 (hh1 _ (by first | omega | (simp; done) | (simp; omega) | fail)) (by first | (simp [hne, del, Nat.add_assoc, hj0, zaa, getK, zab, zac]; done) | fail) (by rfl) (by rfl) ?_; (try simp [hne, del, Nat.add_assoc, hj0]))
  | (refine CallP.ok1 (hix _ (by first | omega | (simp; done) | (simp; omega) | fail)) (by first | (simp [hne, del, Nat.add_assoc, hj0, zaa, getK, zab, zac]; done) | fail) (by rfl) (by rfl) ?_; (try simp [hne, del, Nat.add_assoc, hj0]))
  | (refine CallP.ok1 (hc1 _ _ (by first | omega | (simp; done) | (simp; omega) | fail)) (by first | (simp [hne, del, Nat.add_assoc, hj0, zaa, getK, zab, zac]; done) | fail) (by rfl) (by rfl) ?_; (try simp [hne, del, Nat.add_assoc, hj0]))
  | (refine zaq (by first | rfl | fail) ?_; simp [hne, del, Nat.add_assoc, hj0, frzN, frz1, zay, zax, St.frz, St.frzS, frzS, fv, zaz, za5, za8, zaF, zat, zaj, del, frz, za9])
  | fail)
   (refine CallP.pp (zeq hl [59] (q := p + 1 + 1) (i := i) (by first | omega | (simp; done) | (simp; omega) | fail) g2) (by first | (simp [hi, hne, Nat.add_assoc, zaa, getK, zab, zac]; done) | fail) (by rfl) (by first | assumption | (simp; done) | fail) (by rfl) (by simp) (fun v2 q2 h2 => ?_) (fun pos e q' h2 => ⟨_, Wk.refl _, ?_⟩); rotate_left 1; (focus (rw [h2, PR.zaN] at hR; (refine hpan _ _ ⟨{ n := _, env := [], obs := [(i, pOb l q')], next := nx }, (Wk.cut rfl (by simp [hn]) (by simp [wkO, zaa, getK, zab, zac, Ob.under, D.under, zad, zae, hi, hne, Nat.add_assoc, zab, zac, zaa, getK]) (by simp [wkU, zan, zaa, getK, D.under, hi, hne, Nat.add_assoc, zab, zac, zaa, getK]) (by simp [wkE, zan, zaa, getK, hi, hne, Nat.add_assoc, zab, zac, zaa, getK])), by simp [hn], ?_⟩; try simp); exact PPost.zaw hR.symm)); rw [h2, PR.zav] at hR; (try simp [hi, hne, Nat.add_assoc]))
   repeat' (first
  | (refine zaf ?_; simp [hne, del])
  | (refine zal ?_; simp [hne, del])
  | (refine zah ?_; simp [hne, del])
  | (refine zar ?_; simp only [zao])
  | fail)
   (refine EndW.here ?_; (first | (refine EndOK.fin (.inr rfl) ?_) | (refine EndOK.fin (.inl rfl) ?_)); simp [zaL, zag, Tryz.results81, hne, hi]; refine FinOK.cut [(i, pOb l q2)] (nx) (by simp [zaa, getK, zab, zac, Ob.under, D.under, zad, zae, hne, hi] <;> omega) (by simp [D.under]) (by simp [hn]) ?_; try simp)
   exact PPost.zcw hR.symm rfl rfl
 ·rw [if_neg c1] at hR
  simp only [c1, Bool.false_eq_true, if_false] at hh1
  (refine RetX.of_bodyW Tryz.func81 rfl (by simp) fun Γ hn hpan => ?_); simp only [entry, List.zipIdx_cons, List.zipIdx_nil, List.map_cons, List.map_nil, Nat.zero_add, Tryz.ntmps81]
  repeat' (first
  | (refine zaf ?_; simp [hne, del, Nat.add_assoc])
  | (refine zal ?_; simp [hne, del, Nat.add_assoc])
  | (refine zah ?_; simp [hne, del, Nat.add_assoc])
  | (refine zai ?_; simp [hne, del, Nat.add_assoc])
  | (refine zar ?_; simp only [zao])
  | (refine CallP.ok1 (hh1 _ (by first | omega | (simp; done) | (simp; omega) | fail)) (by first | (simp [hne, del, Nat.add_assoc, zaa, getK, zab, zac]; done) | fail) (by rfl) (by rfl) ?_; (try simp [hne, del, Nat.add_assoc]))
  | fail)
  (refine EndW.here ?_; (first | (refine EndOK.fin (.inr rfl) ?_) | (refine EndOK.fin (.inl rfl) ?_)); simp [zaL, zag, Tryz.results81, hne, hi]; refine FinOK.cut [(i, pOb l p)] (nx) (by simp [zaa, getK, zab, zac, Ob.under, D.under, zad, zae, hne, hi] <;> omega) (by simp [D.under]) (by simp [hn]) ?_; try simp)
  exact PPost.zcw hR.symm rfl rfl
theorem zne {l : List Tok} (hl : TokOK l) {p q : Nat} {n : Int} (h : zew l p = .ok n q) (hp : p < l.length) : p ≤ q ∧ q < l.length := by
 unfold zew at h
 split at h
 ·split at h
  ·rename_i j hj
   rw [List.findIdx?_eq_some_iff_getElem] at hj
   obtain ⟨_, hb, _⟩ := hj
   obtain ⟨_, r2, h2, h⟩ := PR.zaI h
   have g2 := za1 hl _ h2 (zbf hl hb)
   cases h
   exact ⟨by omega, g2.2⟩
  ·cases h
 ·cases h; exact ⟨by omega, hp⟩
theorem zjc (x : Let) (s : W8) : Fun Tryz.prog 82 (znL x :: [U.row [.str s] 0].map .u) (· = .u (.bool (decide (x.name = s)))) := by
 simp only [znL, List.map_cons, List.map_nil]
 (refine Fun.of_body Tryz.func82 rfl (by simp) fun Γ hn => ?_); simp only [entry, List.zipIdx_cons, List.zipIdx_nil, List.map_cons, List.map_nil, Nat.zero_add, Tryz.ntmps82]
 repeat' (first
  | (refine zaf ?_; simp)
  | (refine zal ?_; simp)
  | (refine zah ?_; simp)
  | (refine zar ?_; simp only [zao])
  | fail)
 (refine EndOK.val (.inr rfl) ?_; simp [zaL, zag, zas, Tryz.results82])
theorem zmX (lets : List Let) (s : W8) : Fun Tryz.prog 67 [.u (zfm lets), .fnc (.func 82) [.u (.row [.str s] 0)]]
  (· = .u (.bool (lets.any fun x => decide (x.name = s)))) :=
 zfA lets 82 [U.row [.str s] 0] _ (fun x _ => zjc x s) (by simp) (fun _ => rfl) (fun _ => rfl)
end Go.Proofs.YthnemhfamhnfjaaGreatDoor
namespace Go.Proofs.YthnemhfamhnfjaaGreatDoor
open Go Go.VL
theorem zns {l : List Tok} {p q : Nat} {w : W8} {x : Unit} (h : zhy l p w = .ok x q) : q = p ∧ isB l p w = true := by
 unfold zhy at h
 split at h
 ·cases h; exact ⟨rfl, by assumption⟩
 ·cases h
def zmO (l : List Tok) (p : Nat) (b : Bool) (e : Int) : PR Unit := if b = true then .ok () p else .stop (zc5 l p) e
theorem zhl (l : List Tok) (p : Nat) (b : Bool) (e : Int) (i nx : Nat) (hi : i < nx) (hp : p < l.length) (hl : TokOK l) :
  RetX Tryz.prog 42 [.ptr i 0, .u (.bool b), .u (.int .i64 e)] [(i, pOb l p)] nx (PPost l i nx (fun _ => .tup []) (zmO l p b e)) := by
 obtain ⟨t, ht⟩ : ∃ t, l[p]? = some t := ⟨_, List.getElem?_eq_getElem hp⟩
 have hpa : zc5 l p = t.pos := by unfold zc5; rw [ht]
 unfold zmO
 cases b with
 | true => exact zdU l p e i nx hi
 | false => rw [if_neg (by simp), hpa]; exact zcS l p t e i nx hi ht hl.len
theorem zk6 (l : List Tok) (p : Nat) (w : W8) (i nx : Nat) (hi : i < nx) (hp : p < l.length) (hl : TokOK l) :
  RetX Tryz.prog 42 [.ptr i 0, .u (.bool (isB l p w)), .u (.int .i64 12)] [(i, pOb l p)] nx (PPost l i nx (fun _ => .tup []) (zhy l p w)) := zhl l p (isB l p w) 12 i nx hi hp hl
theorem zn7 {l : List Tok} {p q : Nat} {b : Bool} {e : Int} {x : Unit} (h : zmO l p b e = .ok x q) : q = p ∧ b = true := by
 unfold zmO at h
 split at h
 ·cases h; exact ⟨rfl, by assumption⟩
 ·cases h
theorem zqm {l : List Tok} {p : Nat} {t : Tok} (ht : l[p]? = some t) (i nx : Nat) (hi : i < nx) (hl : TokOK l) :
  RetX Tryz.prog 42 [.ptr i 0, .u (.bool (decide (t.kind = 0))), .u (.int .i64 12)] [(i, pOb l p)] nx (PPost l i nx (fun _ => .tup []) (zpe l p)) := by
 have h := zhl l p (decide (t.kind = 0)) 12 i nx hi (List.getElem?_eq_some_iff.1 ht).1 hl
 have e : zmO l p (decide (t.kind = 0)) 12 = zpe l p := by
  unfold zmO zpe zc5
  rw [ht]
  simp
 rwa [e] at h
theorem zq1 {l : List Tok} {p q : Nat} {x : Unit} (h : zpe l p = .ok x q) : q = p := by
 unfold zpe at h
 split at h
 ·split at h
  ·cases h; rfl
  ·cases h
 ·cases h
/-- A step of the lets, by the parser's own checks. -/
theorem zmh {l : List Tok} {f p : Nat} {acc : List Let} {t : Tok} (ht : l[p + 1]? = some t) : zfo l (f + 1) p acc = if isB l p [108, 101, 116] = true then
  (zmO l p (decide ((acc.length : Int) < 20)) 6).bind fun _ _ => (zmO l (p + 1) (decide (t.kind = 1) && zbD t.text) 12).bind fun _ _ =>
  (zmO l (p + 1) (!(acc.any fun x => decide (x.name = t.text))) 5).bind fun _ _ => (zbu l (p + 2) [[61]]).bind fun _ q => (zdM l q).bind fun e r => zfo l f r (acc ++ [⟨t.text, e⟩])
  else .ok acc p := by
 have hpa : zc5 l (p + 1) = t.pos := by unfold zc5; rw [ht]
 rw [zfo, ht]
 unfold zmO
 rw [hpa]
 by_cases h1 : isB l p [108, 101, 116] = true
 ·rw [if_pos h1, if_pos h1]
  by_cases h2 : acc.length < 20
  ·rw [if_pos h2, if_pos (by simp; omega), PR.zav]
   simp only
   by_cases h3 : t.kind = 1 ∧ zbD t.text = true
   ·have e3 : (decide (t.kind = 1) && zbD t.text) = true := by simp [h3]
    rw [if_pos h3, e3]
    simp only [if_true, PR.zav]
    by_cases h4 : (acc.any fun x => decide (x.name = t.text)) = true
    ·have e4 : (!acc.any fun x => decide (x.name = t.text)) = false := by rw [h4]; rfl
     rw [if_pos h4, e4]
     rfl
    ·have e4 : (!acc.any fun x => decide (x.name = t.text)) = true := by simpa using h4
     rw [if_neg h4, e4]
     rfl
   ·have e3 : (decide (t.kind = 1) && zbD t.text) = false := by simpa using h3
    rw [if_neg h3, e3]
    rfl
  ·have e2 : decide ((acc.length : Int) < 20) = false := by simp; omega
   rw [if_neg h2, e2]
   rfl
 ·rw [if_neg h1, if_neg h1]
theorem znD {l : List Tok} {f p : Nat} {acc : List Let} (h : ¬ isB l p [108, 101, 116] = true) : zfo l (f + 1) p acc = .ok acc p := by rw [zfo, if_neg h]
theorem PR.zea {α β γ : Type} {r : PR α} {f : α → Nat → PR β} {g : β → Nat → PR γ} : (r.bind f).bind g = r.bind fun a p => (f a p).bind g := by cases r <;> rfl
/-- The lets as the rows of a slice. -/
def zgl (acc : List Let) : List (List U) := acc.map fun l => [.str l.name, .int .i64 l.body.op, .int .i64 l.body.n, .int .i64 l.body.unit, .str l.body.s, .sl (l.body.args.map Exp.row)]
theorem znE (acc : List Let) : (zgl acc).length = acc.length := by simp [zgl]
theorem zmi (acc : List Let) (s : W8) (e : Exp) : zgl (acc ++ [⟨s, e⟩]) = zgl acc ++ [[.str s, .int .i64 e.op, .int .i64 e.n, .int .i64 e.unit, .str e.s, .sl (e.args.map Exp.row)]] := by simp [zgl]
abbrev byD (b : By) : D := .u (.agg (zbc b))
attribute [local simp] HS zcR zb0 evPure opd uOf zaH St.put St.at getK binD binI binS binB nilD aggD zgp zhi lookD lookR zcm Go.VL.nextD zcq zhv zhu zfX zcs mkV zdb zbj zbr mapEff zd1 zfM Key.kk shiftI arith unD convD zdH loadD cellsAt fieldAddrD fieldD indexAddrD indexD sliceD cutD lenD minmaxD nilCheckD buildD fillD zbH zcW zes setAll zcE zeJ zch zgC zcd St.add zaM zbB rowsOf zdw zcA zak zac zaa zba zcz zaR entry zbo zbq valD zb5 zcu zgh zc8 zda zbO zbG zau za2 zbm delAll effD St.effS zcM za6 zaY zcN za7 za0 zbY zaZ zaS zbZ zcH zbv zbV zbi zbT zbU zaJ mkD zbI zbs zbF zau zcf D.ids Op.operands Call.operands zbx makeIfD makeFuncD typeAssertD zhh zds zdt zgK zcn IntKind.bits zcG List.take_of_length_le List.range_succ
attribute [local irreducible] V G H HD HD2 HD4 zkk RetX zao Eff CallP CallV EndOK Fun Ret FinOK LoopI LoopW EndW
theorem zmJ (l : List Tok) (hl0 : 0 < l.length) (hl : TokOK l) (hl2 : l.length ≤ 2001) :
  RetX Tryz.prog 37 [.ptr 3 0] [(3, pOb l 0)] 4 (PPost l 3 4 byD (zob l)) := by
 have hi : 3 < 4 := by decide
 have hne := zaB hi
 have hll := hl.len
 have htE : True := trivial
 generalize hR : zob l = R
 rw [zob] at hR
 (refine RetX.of_bodyW Tryz.func37 rfl (by simp) fun Γ hn hpan => ?_); simp only [entry, List.zipIdx_cons, List.zipIdx_nil, List.map_cons, List.map_nil, Nat.zero_add, Tryz.ntmps37]
 repeat' (first
  | (refine zaf ?_; simp [hne])
  | (refine zal ?_; simp [hne])
  | (refine zah ?_; simp [hne])
  | fail)
 (refine CallP.pp (zo4 l 0 3 _ (by first | omega | (simp; done) | (simp; omega) | fail) hl0 hl) (by first | (simp [hi, hne, del, htE, zaa, getK, zab, zac]; done) | fail) (by rfl) (by first | assumption | (simp; done) | fail) (by rfl) (by simp) (fun kb q1 h1 => ?_) (fun pos e q' h1 => ⟨_, Wk.refl _, ?_⟩); rotate_left 1; (focus (rw [h1, PR.zaN] at hR; (refine hpan _ _ ⟨{ n := _, env := [], obs := [(3, pOb l q')], next := 4 }, (Wk.cut rfl (by simp [hn]) (by simp [wkO, zaa, getK, zab, zac, Ob.under, D.under, zad, zae, hi, hne, del, htE, zab, zac, zaa, getK]) (by simp [wkU, zan, zaa, getK, D.under, hi, hne, del, htE, zab, zac, zaa, getK]) (by simp [wkE, zan, zaa, getK, hi, hne, del, htE, zab, zac, zaa, getK])), by simp [hn], ?_⟩; try simp); exact PPost.zaw hR.symm)); rw [h1, PR.zav] at hR; (try simp [hi, hne, del, htE]))
 obtain ⟨_, g1⟩ := zo6 hl h1 hl0
 have hm := zdR l q1 [112, 101, 114, 105, 111, 100] g1 hl.len
 repeat' (first
  | (refine zaf ?_; simp [hne, del])
  | (refine zal ?_; simp [hne, del])
  | (refine zah ?_; simp [hne, del])
  | (refine CallP.fE (hm) (by first | rfl | fail) (by first | (simp [hne, del]; done) | (simp [hne, del]; rfl) | fail) ?_; (try simp [hne, del]))
  | fail)
 (refine CallP.pp (zk6 l q1 [112, 101, 114, 105, 111, 100] 3 _ (by first | omega | (simp; done) | (simp; omega) | fail) g1 hl) (by first | (simp [hi, hne, del, htE, zaa, getK, zab, zac]; done) | fail) (by rfl) (by first | assumption | (simp; done) | fail) (by rfl) (by simp) (fun u2 q2 h2 => ?_) (fun pos e q' h2 => ⟨_, Wk.refl _, ?_⟩); rotate_left 1; (focus (rw [h2, PR.zaN] at hR; (refine hpan _ _ ⟨{ n := _, env := [], obs := [(3, pOb l q')], next := 4 }, (Wk.cut rfl (by simp [hn]) (by simp [wkO, zaa, getK, zab, zac, Ob.under, D.under, zad, zae, hi, hne, del, htE, zab, zac, zaa, getK]) (by simp [wkU, zan, zaa, getK, D.under, hi, hne, del, htE, zab, zac, zaa, getK]) (by simp [wkE, zan, zaa, getK, hi, hne, del, htE, zab, zac, zaa, getK])), by simp [hn], ?_⟩; try simp); exact PPost.zaw hR.symm)); rw [h2, PR.zav] at hR; (try simp [hi, hne, del, htE]))
 obtain ⟨rfl, _⟩ := zns h2
 repeat' (first
  | (refine zaf ?_; simp [hne, del])
  | (refine zal ?_; simp [hne, del])
  | (refine zah ?_; simp [hne, del])
  | (refine zaq (by first | rfl | fail) ?_; simp [hne, del, frzN, frz1, zay, zax, St.frz, St.frzS, frzS, fv, zaz, za5, za8, zaF, zat, zaj, del, frz, za9])
  | fail)
 (refine CallP.pp (zdP l q2 [112, 101, 114, 105, 111, 100] 1 1000 [[100, 97, 121, 115], [59]] 3 _ (by first | omega | (simp; done) | (simp; omega) | fail) g1 hl (by simp)) (by first | (simp [hi, hne, del, htE, zaa, getK, zab, zac]; done) | fail) (by rfl) (by first | assumption | (simp; done) | fail) (by rfl) (by simp) (fun period q3 h3 => ?_) (fun pos e q' h3 => ⟨_, Wk.refl _, ?_⟩); rotate_left 1; (focus (rw [h3, PR.zaN] at hR; (refine hpan _ _ ⟨{ n := _, env := [], obs := [(3, pOb l q')], next := 4 }, (Wk.cut rfl (by simp [hn]) (by simp [wkO, zaa, getK, zab, zac, Ob.under, D.under, zad, zae, hi, hne, del, htE, zab, zac, zaa, getK]) (by simp [wkU, zan, zaa, getK, D.under, hi, hne, del, htE, zab, zac, zaa, getK]) (by simp [wkE, zan, zaa, getK, hi, hne, del, htE, zab, zac, zaa, getK])), by simp [hn], ?_⟩; try simp); exact PPost.zaw hR.symm)); rw [h3, PR.zav] at hR; (try simp [hi, hne, del, htE]))
 obtain ⟨_, g3⟩ := zdQ hl h3 g1
 repeat' (first
  | (refine zaf ?_; simp [hne, del])
  | (refine zal ?_; simp [hne, del])
  | (refine zah ?_; simp [hne, del])
  | fail)
 have hm := zdR l q3 [108, 97, 115, 116] g3 hl.len
 repeat' (first
  | (refine zaf ?_; simp [hne, del])
  | (refine CallP.fE (hm) (by first | rfl | fail) (by first | (simp [hne, del]; done) | (simp [hne, del]; rfl) | fail) ?_; (try simp [hne, del]))
  | fail)
 (refine CallP.pp (zk6 l q3 [108, 97, 115, 116] 3 _ (by first | omega | (simp; done) | (simp; omega) | fail) g3 hl) (by first | (simp [hi, hne, del, htE, zaa, getK, zab, zac]; done) | fail) (by rfl) (by first | assumption | (simp; done) | fail) (by rfl) (by simp) (fun u4 q4 h4 => ?_) (fun pos e q' h4 => ⟨_, Wk.refl _, ?_⟩); rotate_left 1; (focus (rw [h4, PR.zaN] at hR; (refine hpan _ _ ⟨{ n := _, env := [], obs := [(3, pOb l q')], next := 4 }, (Wk.cut rfl (by simp [hn]) (by simp [wkO, zaa, getK, zab, zac, Ob.under, D.under, zad, zae, hi, hne, del, htE, zab, zac, zaa, getK]) (by simp [wkU, zan, zaa, getK, D.under, hi, hne, del, htE, zab, zac, zaa, getK]) (by simp [wkE, zan, zaa, getK, hi, hne, del, htE, zab, zac, zaa, getK])), by simp [hn], ?_⟩; try simp); exact PPost.zaw hR.symm)); rw [h4, PR.zav] at hR; (try simp [hi, hne, del, htE]))
 obtain ⟨rfl, _⟩ := zns h4
 repeat' (first
  | (refine zaf ?_; simp [hne, del])
  | (refine zal ?_; simp [hne, del])
  | (refine zah ?_; simp [hne, del])
  | (refine zaq (by first | rfl | fail) ?_; simp [hne, del, frzN, frz1, zay, zax, St.frz, St.frzS, frzS, fv, zaz, za5, za8, zaF, zat, zaj, del, frz, za9])
  | fail)
 (refine CallP.pp (zdP l q4 [108, 97, 115, 116] 1 1000 [[59]] 3 _ (by first | omega | (simp; done) | (simp; omega) | fail) g3 hl (by simp)) (by first | (simp [hi, hne, del, htE, zaa, getK, zab, zac]; done) | fail) (by rfl) (by first | assumption | (simp; done) | fail) (by rfl) (by simp) (fun last q5 h5 => ?_) (fun pos e q' h5 => ⟨_, Wk.refl _, ?_⟩); rotate_left 1; (focus (rw [h5, PR.zaN] at hR; (refine hpan _ _ ⟨{ n := _, env := [], obs := [(3, pOb l q')], next := 4 }, (Wk.cut rfl (by simp [hn]) (by simp [wkO, zaa, getK, zab, zac, Ob.under, D.under, zad, zae, hi, hne, del, htE, zab, zac, zaa, getK]) (by simp [wkU, zan, zaa, getK, D.under, hi, hne, del, htE, zab, zac, zaa, getK]) (by simp [wkE, zan, zaa, getK, hi, hne, del, htE, zab, zac, zaa, getK])), by simp [hn], ?_⟩; try simp); exact PPost.zaw hR.symm)); rw [h5, PR.zav] at hR; (try simp [hi, hne, del, htE]))
 obtain ⟨_, g5⟩ := zdQ hl h5 g3
 repeat' (first
  | (refine zaf ?_; simp [hne, del])
  | (refine zal ?_; simp [hne, del])
  | (refine zah ?_; simp [hne, del])
  | (refine zaq (by first | rfl | fail) ?_; simp [hne, del, frzN, frz1, zay, zax, St.frz, St.frzS, frzS, fv, zaz, za5, za8, zaF, zat, zaj, del, frz, za9])
  | fail)
 (refine CallP.pp (zdP l q5 [103, 114, 97, 99, 101] 0 1000 [[100, 97, 121, 115], [59]] 3 _ (by first | omega | (simp; done) | (simp; omega) | fail) g5 hl (by simp)) (by first | (simp [hi, hne, del, htE, zaa, getK, zab, zac]; done) | fail) (by rfl) (by first | assumption | (simp; done) | fail) (by rfl) (by simp) (fun grace q6 h6 => ?_) (fun pos e q' h6 => ⟨_, Wk.refl _, ?_⟩); rotate_left 1; (focus (rw [h6, PR.zaN] at hR; (refine hpan _ _ ⟨{ n := _, env := [], obs := [(3, pOb l q')], next := 4 }, (Wk.cut rfl (by simp [hn]) (by simp [wkO, zaa, getK, zab, zac, Ob.under, D.under, zad, zae, hi, hne, del, htE, zab, zac, zaa, getK]) (by simp [wkU, zan, zaa, getK, D.under, hi, hne, del, htE, zab, zac, zaa, getK]) (by simp [wkE, zan, zaa, getK, hi, hne, del, htE, zab, zac, zaa, getK])), by simp [hn], ?_⟩; try simp); exact PPost.zaw hR.symm)); rw [h6, PR.zav] at hR; (try simp [hi, hne, del, htE]))
 obtain ⟨_, g6⟩ := zdQ hl h6 g5
 repeat' (first
  | (refine zaf ?_; simp [hne, del])
  | (refine zal ?_; simp [hne, del])
  | (refine zah ?_; simp [hne, del])
  | (refine zaq (by first | rfl | fail) ?_; simp [hne, del, frzN, frz1, zay, zax, St.frz, St.frzS, frzS, fv, zaz, za5, za8, zaF, zat, zaj, del, frz, za9])
  | fail)
 (refine CallP.pp (zdP l q6 [119, 97, 105, 116] 0 1000 [[100, 97, 121, 115], [59]] 3 _ (by first | omega | (simp; done) | (simp; omega) | fail) g6 hl (by simp)) (by first | (simp [hi, hne, del, htE, zaa, getK, zab, zac]; done) | fail) (by rfl) (by first | assumption | (simp; done) | fail) (by rfl) (by simp) (fun wait q7 h7 => ?_) (fun pos e q' h7 => ⟨_, Wk.refl _, ?_⟩); rotate_left 1; (focus (rw [h7, PR.zaN] at hR; (refine hpan _ _ ⟨{ n := _, env := [], obs := [(3, pOb l q')], next := 4 }, (Wk.cut rfl (by simp [hn]) (by simp [wkO, zaa, getK, zab, zac, Ob.under, D.under, zad, zae, hi, hne, del, htE, zab, zac, zaa, getK]) (by simp [wkU, zan, zaa, getK, D.under, hi, hne, del, htE, zab, zac, zaa, getK]) (by simp [wkE, zan, zaa, getK, hi, hne, del, htE, zab, zac, zaa, getK])), by simp [hn], ?_⟩; try simp); exact PPost.zaw hR.symm)); rw [h7, PR.zav] at hR; (try simp [hi, hne, del, htE]))
 obtain ⟨_, g7⟩ := zdQ hl h7 g6
 repeat' (first
  | (refine zaf ?_; simp [hne, del])
  | (refine zal ?_; simp [hne, del])
  | (refine zah ?_; simp [hne, del])
  | fail)
 (refine CallP.pp (znd l q7 3 _ (by first | omega | (simp; done) | (simp; omega) | fail) g7 hl) (by first | (simp [hi, hne, del, htE, zaa, getK, zab, zac]; done) | fail) (by rfl) (by first | assumption | (simp; done) | fail) (by rfl) (by simp) (fun order q8 h8 => ?_) (fun pos e q' h8 => ⟨_, Wk.refl _, ?_⟩); rotate_left 1; (focus (rw [h8, PR.zaN] at hR; (refine hpan _ _ ⟨{ n := _, env := [], obs := [(3, pOb l q')], next := 4 }, (Wk.cut rfl (by simp [hn]) (by simp [wkO, zaa, getK, zab, zac, Ob.under, D.under, zad, zae, hi, hne, del, htE, zab, zac, zaa, getK]) (by simp [wkU, zan, zaa, getK, D.under, hi, hne, del, htE, zab, zac, zaa, getK]) (by simp [wkE, zan, zaa, getK, hi, hne, del, htE, zab, zac, zaa, getK])), by simp [hn], ?_⟩; try simp); exact PPost.zaw hR.symm)); rw [h8, PR.zav] at hR; (try simp [hi, hne, del, htE]))
 obtain ⟨_, g8⟩ := zne hl h8 g7
 repeat' (first
  | (refine zaf ?_; simp [hne, del])
  | (refine zal ?_; simp [hne, del])
  | (refine zah ?_; simp [hne, del])
  | (refine zaq (by first | rfl | fail) ?_; simp [hne, del, frzN, frz1, zay, zax, St.frz, St.frzS, frzS, fv, zaz, za5, za8, zaF, zat, zaj, del, frz, za9])
  | fail)
 (refine CallP.pp (zdP l q8 [98, 97, 99, 107, 115] 0 60 [[59]] 3 _ (by first | omega | (simp; done) | (simp; omega) | fail) g8 hl (by simp)) (by first | (simp [hi, hne, del, htE, zaa, getK, zab, zac]; done) | fail) (by rfl) (by first | assumption | (simp; done) | fail) (by rfl) (by simp) (fun backs q9 h9 => ?_) (fun pos e q' h9 => ⟨_, Wk.refl _, ?_⟩); rotate_left 1; (focus (rw [h9, PR.zaN] at hR; (refine hpan _ _ ⟨{ n := _, env := [], obs := [(3, pOb l q')], next := 4 }, (Wk.cut rfl (by simp [hn]) (by simp [wkO, zaa, getK, zab, zac, Ob.under, D.under, zad, zae, hi, hne, del, htE, zab, zac, zaa, getK]) (by simp [wkU, zan, zaa, getK, D.under, hi, hne, del, htE, zab, zac, zaa, getK]) (by simp [wkE, zan, zaa, getK, hi, hne, del, htE, zab, zac, zaa, getK])), by simp [hn], ?_⟩; try simp); exact PPost.zaw hR.symm)); rw [h9, PR.zav] at hR; (try simp [hi, hne, del, htE]))
 obtain ⟨_, g9⟩ := zdQ hl h9 g8
 repeat' (first
  | (refine zaf ?_; simp [hne, del])
  | (refine zal ?_; simp [hne, del])
  | (refine zah ?_; simp [hne, del])
  | (refine zaq (by first | rfl | fail) ?_; simp [hne, del, frzN, frz1, zay, zax, St.frz, St.frzS, frzS, fv, zaz, za5, za8, zaF, zat, zaj, del, frz, za9])
  | fail)
 (refine CallP.pp (zdP l q9 [118, 111, 105, 99, 101, 115] 0 1000 [[112, 101, 114], [109, 105, 108, 108, 101], [59]] 3 _ (by first | omega | (simp; done) | (simp; omega) | fail) g9 hl (by simp)) (by first | (simp [hi, hne, del, htE, zaa, getK, zab, zac]; done) | fail) (by rfl) (by first | assumption | (simp; done) | fail) (by rfl) (by simp) (fun voices q10 h10 => ?_) (fun pos e q' h10 => ⟨_, Wk.refl _, ?_⟩); rotate_left 1; (focus (rw [h10, PR.zaN] at hR; (refine hpan _ _ ⟨{ n := _, env := [], obs := [(3, pOb l q')], next := 4 }, (Wk.cut rfl (by simp [hn]) (by simp [wkO, zaa, getK, zab, zac, Ob.under, D.under, zad, zae, hi, hne, del, htE, zab, zac, zaa, getK]) (by simp [wkU, zan, zaa, getK, D.under, hi, hne, del, htE, zab, zac, zaa, getK]) (by simp [wkE, zan, zaa, getK, hi, hne, del, htE, zab, zac, zaa, getK])), by simp [hn], ?_⟩; try simp); exact PPost.zaw hR.symm)); rw [h10, PR.zav] at hR; (try simp [hi, hne, del, htE]))
 obtain ⟨_, g10⟩ := zdQ hl h10 g9
 repeat' (first
  | (refine zaf ?_; simp [hne, del])
  | (refine zal ?_; simp [hne, del])
  | (refine zah ?_; simp [hne, del])
  | (refine zaq (by first | rfl | fail) ?_; simp [hne, del, frzN, frz1, zay, zax, St.frz, St.frzS, frzS, fv, zaz, za5, za8, zaF, zat, zaj, del, frz, za9])
  | fail)
 (refine CallP.pp (zdP l q10 [106, 117, 114, 121] 0 60 [[59]] 3 _ (by first | omega | (simp; done) | (simp; omega) | fail) g10 hl (by simp)) (by first | (simp [hi, hne, del, htE, zaa, getK, zab, zac]; done) | fail) (by rfl) (by first | assumption | (simp; done) | fail) (by rfl) (by simp) (fun jury q11 h11 => ?_) (fun pos e q' h11 => ⟨_, Wk.refl _, ?_⟩); rotate_left 1; (focus (rw [h11, PR.zaN] at hR; (refine hpan _ _ ⟨{ n := _, env := [], obs := [(3, pOb l q')], next := 4 }, (Wk.cut rfl (by simp [hn]) (by simp [wkO, zaa, getK, zab, zac, Ob.under, D.under, zad, zae, hi, hne, del, htE, zab, zac, zaa, getK]) (by simp [wkU, zan, zaa, getK, D.under, hi, hne, del, htE, zab, zac, zaa, getK]) (by simp [wkE, zan, zaa, getK, hi, hne, del, htE, zab, zac, zaa, getK])), by simp [hn], ?_⟩; try simp); exact PPost.zaw hR.symm)); rw [h11, PR.zav] at hR; (try simp [hi, hne, del, htE]))
 obtain ⟨_, g11⟩ := zdQ hl h11 g10
 repeat' (first
  | (refine zaf ?_; simp [hne, del])
  | (refine zal ?_; simp [hne, del])
  | (refine zah ?_; simp [hne, del])
  | (refine zaq (by first | rfl | fail) ?_; simp [hne, del, frzN, frz1, zay, zax, St.frz, St.frzS, frzS, fv, zaz, za5, za8, zaF, zat, zaj, del, frz, za9])
  | fail)
 (refine CallP.pp (zdP l q11 [102, 117, 110, 100] 0 1000 [[112, 101, 114], [109, 105, 108, 108, 101], [59]] 3 _ (by first | omega | (simp; done) | (simp; omega) | fail) g11 hl (by simp)) (by first | (simp [hi, hne, del, htE, zaa, getK, zab, zac]; done) | fail) (by rfl) (by first | assumption | (simp; done) | fail) (by rfl) (by simp) (fun fund q12 h12 => ?_) (fun pos e q' h12 => ⟨_, Wk.refl _, ?_⟩); rotate_left 1; (focus (rw [h12, PR.zaN] at hR; (refine hpan _ _ ⟨{ n := _, env := [], obs := [(3, pOb l q')], next := 4 }, (Wk.cut rfl (by simp [hn]) (by simp [wkO, zaa, getK, zab, zac, Ob.under, D.under, zad, zae, hi, hne, del, htE, zab, zac, zaa, getK]) (by simp [wkU, zan, zaa, getK, D.under, hi, hne, del, htE, zab, zac, zaa, getK]) (by simp [wkE, zan, zaa, getK, hi, hne, del, htE, zab, zac, zaa, getK])), by simp [hn], ?_⟩; try simp); exact PPost.zaw hR.symm)); rw [h12, PR.zav] at hR; (try simp [hi, hne, del, htE]))
 obtain ⟨_, g12⟩ := zdQ hl h12 g11
 repeat' (first
  | (refine zaf ?_; simp [hne, del])
  | (refine zal ?_; simp [hne, del])
  | (refine zah ?_; simp [hne, del])
  | fail)
 refine zhw _ (Wk.ownC 5 _ 11 45 6 (by decide) rfl rfl) ?_
 simp [St.ownC]
 refine zdY (α := { x : Nat × List Let × Nat // x.1 < l.length ∧ x.2.1.length + x.2.2 = 21 ∧ x.2.1.length ≤ 20 ∧ zfo l 21 q12 [] = zfo l x.2.2 x.1 x.2.1 }) [0, 2, 3] (fun x => [])
  (fun x => [(5, .box [.u (.int .i64 kb.1), .u (.int .i64 period), .u (.int .i64 grace), .u (.int .i64 wait), .u (.int .i64 last), .u (.int .i64 order), .u (.bool kb.2), .u (.int .i64 backs), .u (.int .i64 voices), .u (.int .i64 jury), .u (.int .i64 fund), .vec 14 x.1.2.1.length, .u (.int .i64 0), .u (.int .i64 0), .u (.int .i64 0), .u (.str []), .u .nil, .u (.int .i64 0), .u (.int .i64 0), .u (.int .i64 0), .u (.str []), .u .nil, .u (.int .i64 0), .u (.int .i64 0), .u (.int .i64 0), .u (.str []), .u .nil, .u (.int .i64 0), .u (.int .i64 0), .u (.int .i64 0), .u (.str []), .u .nil, .u (.int .i64 0), .u (.int .i64 0), .u (.int .i64 0), .u (.str []), .u .nil]), (14, .vec 45 6 (rowsD (zgl x.1.2.1))), (4, .box [.u (.int .i64 0), .u (.int .i64 0), .u (.int .i64 0), .u (.int .i64 0), .u (.int .i64 0), .u (.int .i64 0), .u (.bool false), .u (.int .i64 0), .u (.int .i64 0), .u (.int .i64 0), .u (.int .i64 0), .u .nil, .u (.int .i64 0), .u (.int .i64 0), .u (.int .i64 0), .u (.str []), .u .nil, .u (.int .i64 0), .u (.int .i64 0), .u (.int .i64 0), .u (.str []), .u .nil, .u (.int .i64 0), .u (.int .i64 0), .u (.int .i64 0), .u (.str []), .u .nil, .u (.int .i64 0), .u (.int .i64 0), .u (.int .i64 0), .u (.str []), .u .nil, .u (.int .i64 0), .u (.int .i64 0), .u (.int .i64 0), .u (.str []), .u .nil]), (3, pOb l x.1.1)]) 15 (fun x => x.1.2.2) ⟨(q12, [], 21), g12, rfl, by simp, rfl⟩ ?_ ?_
 ·exact (Wk.cut rfl (by simp [hn, St.lp]) (by simp [wkO, St.lp, zaa, getK, Ob.under, D.under, zad, zae, zgl]) (by simp [wkU, St.lp, zan, zaa, getK, D.under, zgl]) (by simp [wkE, St.lp, zan, zaa, getK, zgl] <;> (try (intros; simp_all; done)) <;> (try (intros; omega)) <;> (try grind)))
 rintro ⟨⟨q, acc, g⟩, gq, hg, hg2, hS⟩
 simp only at gq hg hg2 hS
 simp [St.lp, St.only, zan, zaa, getK]
 have hm := zdR l q [108, 101, 116] gq hl.len
 have hAl := znE acc
 have hsn := zmi acc
 generalize hA : zgl acc = A at *
 have htk : A.take acc.length = A := List.take_of_length_le (by omega)
 obtain ⟨g, rfl⟩ : ∃ g', g = g' + 1 := ⟨g - 1, by omega⟩
 by_cases hb : isB l q [108, 101, 116] = true
 ·have g1q := zbf hl hb
  obtain ⟨t, ht⟩ : ∃ t, l[q + 1]? = some t := ⟨_, List.getElem?_eq_getElem g1q⟩
  have hnx := zbW l (q + 1) t ht hl.len
  rw [zmh ht, if_pos hb] at hS
  rw [hS, PR.zea] at hR
  rw [hb] at hm
  repeat' (first
  | (refine zaf ?_; simp [hne, del, hAl])
  | (refine zal ?_; simp [hne, del, hAl])
  | (refine zah ?_; simp [hne, del, hAl])
  | (refine zai ?_; simp [hne, del, hAl])
  | (refine zaA ?_; simp [hne, del, hAl])
  | (refine zap ?_; simp only [zao])
  | (refine CallP.fE (hm) (by first | rfl | fail) (by first | (simp [hne, del, hAl]; done) | (simp [hne, del, hAl]; rfl) | fail) ?_; (try simp [hne, del, hAl]))
  | fail)
  (refine CallP.pp (zhl l q (decide ((acc.length : Int) < 20)) 6 3 _ (by first | omega | (simp; done) | (simp; omega) | fail) gq hl) (by first | (simp [hi, hne, del, zaa, getK, zab, zac]; done) | fail) (by rfl) (by first | assumption | (simp; done) | fail) (by rfl) (by simp) (fun u20 q20 h20 => ?_) (fun pos e q' h20 => ⟨_, Wk.refl _, ?_⟩); rotate_left 1; (focus (rw [h20, PR.zaN] at hR; (refine hpan _ _ ⟨{ n := _, env := [], obs := [(3, pOb l q')], next := 4 }, (Wk.cut rfl (by simp [hn]) (by simp [wkO, zaa, getK, zab, zac, Ob.under, D.under, zad, zae, hi, hne, del, zab, zac, zaa, getK]) (by simp [wkU, zan, zaa, getK, D.under, hi, hne, del, zab, zac, zaa, getK]) (by simp [wkE, zan, zaa, getK, hi, hne, del, zab, zac, zaa, getK])), by simp [hn], ?_⟩; try simp); exact PPost.zaw hR.symm)); rw [h20, PR.zav] at hR; (try simp [hi, hne, del]))
  obtain ⟨rfl, hlt⟩ := zn7 h20
  rw [h20, PR.zav] at hS
  rw [PR.zea] at hR
  by_cases hw : t.kind = 1
  case neg =>
   have hc2 := fun e nx' (h : 15 ≤ nx') => zcS l (q20 + 1) t e 3 nx' (by omega) ht hl.len
   have e3 : zmO l (q20 + 1) (decide (t.kind = 1) && zbD t.text) 12 = .stop t.pos 12 := by
    unfold zmO zc5; rw [ht]; simp [hw]
   rw [e3, PR.zaN] at hR
   repeat' (first
  | (refine zaf ?_; simp [hne, del, hw])
  | (refine zal ?_; simp [hne, del, hw])
  | (refine ⟨by omega, ?_⟩)
  | (refine zah ?_; simp [hne, del, hw])
  | (refine CallP.fE (hnx) (by first | rfl | fail) (by first | (simp [hne, del, hw]; done) | (simp [hne, del, hw]; rfl) | fail) ?_; (try simp [hne, del, hw]))
  | (refine CallP.zeb (hc2 _ _ (by first | omega | (simp; done) | (simp; omega) | fail)) (by first | (simp [hne, del, hw, zaa, getK, zab, zac]; done) | fail) (by rfl) (by first | assumption | (simp; done) | fail) (by rfl) (by simp) ?_; rintro ob' ⟨q', rfl⟩; refine ⟨_, Wk.refl _, ?_⟩)
  | fail)
   (refine hpan _ _ ⟨{ n := _, env := [], obs := [(3, pOb l q')], next := 4 }, (Wk.cut rfl (by simp [hn]) (by simp [wkO, zaa, getK, zab, zac, Ob.under, D.under, zad, zae, hi, hne, zab, zac, zaa, getK]) (by simp [wkU, zan, zaa, getK, D.under, hi, hne, zab, zac, zaa, getK]) (by simp [wkE, zan, zaa, getK, hi, hne, zab, zac, zaa, getK])), by simp [hn], ?_⟩; try simp)
   exact PPost.zaw hR.symm
  have hnm := zeN t.text
  have e3 : (decide (t.kind = 1) && zbD t.text) = zbD t.text := by simp [hw]
  rw [e3] at hR hS
  generalize zbD t.text = nb at hnm hR hS
  repeat' (first
  | (refine zaf ?_; simp [hne, del, hw])
  | (refine zal ?_; simp [hne, del, hw])
  | (refine ⟨by omega, ?_⟩)
  | (refine zah ?_; simp [hne, del, hw])
  | (refine CallP.fE (hnx) (by first | rfl | fail) (by first | (simp [hne, del, hw]; done) | (simp [hne, del, hw]; rfl) | fail) ?_; (try simp [hne, del, hw]))
  | (refine CallP.fE (hnm) (by first | rfl | fail) (by first | (simp [hne, del, hw]; done) | (simp [hne, del, hw]; rfl) | fail) ?_; (try simp [hne, del, hw]))
  | fail)
  (refine CallP.pp (zhl l (q20 + 1) nb 12 3 _ (by first | omega | (simp; done) | (simp; omega) | fail) g1q hl) (by first | (simp [hi, hne, del, zaa, getK, zab, zac]; done) | fail) (by rfl) (by first | assumption | (simp; done) | fail) (by rfl) (by simp) (fun u21 q21 h21 => ?_) (fun pos e q' h21 => ⟨_, Wk.refl _, ?_⟩); rotate_left 1; (focus (rw [h21, PR.zaN] at hR; (refine hpan _ _ ⟨{ n := _, env := [], obs := [(3, pOb l q')], next := 4 }, (Wk.cut rfl (by simp [hn]) (by simp [wkO, zaa, getK, zab, zac, Ob.under, D.under, zad, zae, hi, hne, del, zab, zac, zaa, getK]) (by simp [wkU, zan, zaa, getK, D.under, hi, hne, del, zab, zac, zaa, getK]) (by simp [wkE, zan, zaa, getK, hi, hne, del, zab, zac, zaa, getK])), by simp [hn], ?_⟩; try simp); exact PPost.zaw hR.symm)); rw [h21, PR.zav] at hR; (try simp [hi, hne, del]))
  obtain ⟨rfl, hnb⟩ := zn7 h21
  rw [h21, PR.zav] at hS
  rw [PR.zea] at hR
  have htw := zmX acc t.text
  have htw : Fun Tryz.prog 67 [.u (.sl (zgl acc)), .fnc (.func 82) [.u (.row [.str t.text] 0)]] (· = .u (.bool (acc.any fun x => decide (x.name = t.text)))) := htw
  rw [hA] at htw
  generalize (acc.any fun x => decide (x.name = t.text)) = tb at htw hR hS
  repeat' (first
  | (refine zaf ?_; simp [hne, del, hw, htk, hAl])
  | (refine zal ?_; simp [hne, del, hw, htk, hAl])
  | (refine zah ?_; simp [hne, del, hw, htk, hAl])
  | (refine CallP.fE (htw) (by first | rfl | fail) (by first | (simp [hne, del, hw, htk, hAl]; done) | (simp [hne, del, hw, htk, hAl]; rfl) | fail) ?_; (try simp [hne, del, hw, htk, hAl]))
  | fail)
  (refine CallP.pp (zhl l (q20 + 1) (!tb) 5 3 _ (by first | omega | (simp; done) | (simp; omega) | fail) g1q hl) (by first | (simp [hi, hne, del, zaa, getK, zab, zac]; done) | fail) (by rfl) (by first | assumption | (simp; done) | fail) (by rfl) (by simp) (fun u22 q22 h22 => ?_) (fun pos e q' h22 => ⟨_, Wk.refl _, ?_⟩); rotate_left 1; (focus (rw [h22, PR.zaN] at hR; (refine hpan _ _ ⟨{ n := _, env := [], obs := [(3, pOb l q')], next := 4 }, (Wk.cut rfl (by simp [hn]) (by simp [wkO, zaa, getK, zab, zac, Ob.under, D.under, zad, zae, hi, hne, del, zab, zac, zaa, getK]) (by simp [wkU, zan, zaa, getK, D.under, hi, hne, del, zab, zac, zaa, getK]) (by simp [wkE, zan, zaa, getK, hi, hne, del, zab, zac, zaa, getK])), by simp [hn], ?_⟩; try simp); exact PPost.zaw hR.symm)); rw [h22, PR.zav] at hR; (try simp [hi, hne, del]))
  obtain ⟨rfl, htb⟩ := zn7 h22
  rw [h22, PR.zav] at hS
  rw [PR.zea] at hR
  have g2q := hl.fin (q20 + 1) t ht (by omega)
  repeat' (first
  | (refine zaf ?_; simp [hne, del])
  | (refine zal ?_; simp [hne, del])
  | (refine ⟨by omega, ?_⟩)
  | (refine zah ?_; simp [hne, del])
  | (refine zaq (by first | rfl | fail) ?_; simp [hne, del, frzN, frz1, zay, zax, St.frz, St.frzS, frzS, fv, zaz, za5, za8, zaF, zat, zaj, del, frz, za9])
  | fail)
  (refine CallP.pp (zeq hl [61] (q := q20 + 1 + 1) (i := 3) (by first | omega | (simp; done) | (simp; omega) | fail) g2q) (by first | (simp [hi, hne, del, zaa, getK, zab, zac]; done) | fail) (by rfl) (by first | assumption | (simp; done) | fail) (by rfl) (by simp) (fun u23 q23 h23 => ?_) (fun pos e q' h23 => ⟨_, Wk.refl _, ?_⟩); rotate_left 1; (focus (rw [h23, PR.zaN] at hR; (refine hpan _ _ ⟨{ n := _, env := [], obs := [(3, pOb l q')], next := 4 }, (Wk.cut rfl (by simp [hn]) (by simp [wkO, zaa, getK, zab, zac, Ob.under, D.under, zad, zae, hi, hne, del, zab, zac, zaa, getK]) (by simp [wkU, zan, zaa, getK, D.under, hi, hne, del, zab, zac, zaa, getK]) (by simp [wkE, zan, zaa, getK, hi, hne, del, zab, zac, zaa, getK])), by simp [hn], ?_⟩; try simp); exact PPost.zaw hR.symm)); rw [h23, PR.zav] at hR; (try simp [hi, hne, del]))
  obtain ⟨_, g23⟩ := za1 hl _ h23 g2q
  rw [h23, PR.zav] at hS
  rw [PR.zea] at hR
  have hwh := fun nx' (h : 15 ≤ nx') => zgG l q23 3 nx' (by omega) g23 hl hl2
  cases hr : zdM l q23 with
  | stop pos e =>
   rw [hr, PR.zaN] at hR
   simp only [hr] at hwh
   repeat' (first
  | (refine zfK (fun nx' h' => hwh nx' (by simp at h'; omega)) (by first | (simp [hne, del, htk, hAl, zaa, getK, zab, zac, zak, zaJ]; done) | fail) (by rfl) (by first | assumption | simp) (by rfl) (by simp) ?_ ?_; rintro env' ob' n' hn' ⟨q', rfl⟩; refine ⟨_, Wk.refl _, ?_⟩)
  | (refine zeK rfl (by simp) ?_; simp)
  | (refine zbt rfl ?_; simp [hne, del, htk, hAl])
  | (refine zal ?_; simp [hne, del, htk, hAl])
  | (refine zfL (hC _ (by kernel_rfl)) rfl; done)
  | (refine zb6 rfl (by kernel_rfl) (by first | (simp [hn]; done) | (simp [hn]; omega) | fail) fun C k hC hk => ?_; simp [hne, del, htk, hAl])
  | fail)
   (refine hpan _ _ ⟨{ n := _, env := [], obs := [(3, pOb l q')], next := 4 }, (Wk.cut rfl (by simp [hn]) (by simp [wkO, zaa, getK, zab, zac, Ob.under, D.under, zad, zae, hi, hne, zab, zac, zaa, getK]) (by simp [wkU, zan, zaa, getK, D.under, hi, hne, zab, zac, zaa, getK]) (by simp [wkE, zan, zaa, getK, hi, hne, zab, zac, zaa, getK])), by simp [hn], ?_⟩; try simp)
   exact PPost.zaw hR.symm
  | ok e r =>
   have hwh := fun nx' h => zcY (hwh nx' h) hr
   obtain ⟨_, g24⟩ := zgI hl hr g23
   rw [hr, PR.zav] at hS
   repeat' (first
  | (refine zhr (fun nx' h' => hwh nx' (by simp at h'; omega)) (by first | (simp [hne, del, htk, hAl, zaa, getK, zab, zac, zak, zaJ]; done) | fail) (by rfl) (by first | assumption | simp) (by rfl) (by simp [D.under, Ob.under]) (by simp) ?_; (try simp [hne, del, htk, hAl]))
  | (refine zbt rfl ?_; simp [hne, del, htk, hAl])
  | (refine zcc rfl ?_; simp [hne, del, htk, hAl])
  | (refine zal ?_; simp [hne, del, htk, hAl])
  | (refine ⟨by omega, ?_⟩)
  | (refine zbQ (hC _ (by kernel_rfl)) (hk _ ?_); clear hC hk C k; simp only [zao])
  | (refine zb6 rfl (by kernel_rfl) (by first | (simp [hn]; done) | (simp [hn]; omega) | fail) fun C k hC hk => ?_; simp [hne, del, htk, hAl])
  | fail)
   have hlt' : acc.length < 20 := by have := of_decide_eq_true hlt; omega
   refine LoopW.next ⟨(r, acc ++ [⟨t.text, e⟩], g), g24, (by simp; omega), (by simp; omega), hS⟩ (by simp) ?_
   exact (Wk.ren ((fun j => if j = 14 then 18 else j)) rfl (by first | (simp [hn]; done) | (intro i hi; rw [hn] at hi; constructor <;> (try simp) <;> (try (intro _)) <;> omega)) (by simp [zgj, St.lp, zan, zaa, getK, zac, zak, D.under, D.le, D.ren, hsn, htk] <;> (try (intros; simp_all; done)) <;> (try omega)) (by simp [wkR, St.lp, zaa, getK, zac, zak, obR, leU, zbk, zaU, Ob.under, D.under, D.le, D.ren, hsn, htk] <;> (try (intros; simp_all; done)) <;> (try omega)) (by simp [hsn, htk]))
 ·rw [znD hb] at hS
  rw [hS, PR.zav] at hR
  have hb2 : isB l q [108, 101, 116] = false := by simpa using hb
  rw [hb2] at hm
  repeat' (first
  | (refine zaf ?_; simp [hne, del])
  | (refine zal ?_; simp [hne, del])
  | (refine zah ?_; simp [hne, del])
  | (refine zai ?_; simp [hne, del])
  | (refine zbR ?_; simp [zao])
  | (refine CallP.fE (hm) (by first | rfl | fail) (by first | (simp [hne, del]; done) | (simp [hne, del]; rfl) | fail) ?_; (try simp [hne, del]))
  | (refine zaq (by first | rfl | fail) ?_; simp [hne, del, frzN, frz1, zay, zax, St.frz, St.frzS, frzS, fv, zaz, za5, za8, zaF, zat, zaj, del, frz, za9])
  | fail)
  (refine CallP.pp (zeq hl [100, 117, 101] (q := q) (i := 3) (by first | omega | (simp; done) | (simp; omega) | fail) gq) (by first | (simp [hi, hne, del, zaa, getK, zab, zac]; done) | fail) (by rfl) (by first | assumption | (simp; done) | fail) (by rfl) (by simp) (fun u30 q30 h30 => ?_) (fun pos e q' h30 => ⟨_, Wk.refl _, ?_⟩); rotate_left 1; (focus (rw [h30, PR.zaN] at hR; (refine hpan _ _ ⟨{ n := _, env := [], obs := [(3, pOb l q')], next := 4 }, (Wk.cut rfl (by simp [hn]) (by simp [wkO, zaa, getK, zab, zac, Ob.under, D.under, zad, zae, hi, hne, del, zab, zac, zaa, getK]) (by simp [wkU, zan, zaa, getK, D.under, hi, hne, del, zab, zac, zaa, getK]) (by simp [wkE, zan, zaa, getK, hi, hne, del, zab, zac, zaa, getK])), by simp [hn], ?_⟩; try simp); exact PPost.zaw hR.symm)); rw [h30, PR.zav] at hR; (try simp [hi, hne, del]))
  obtain ⟨_, g30⟩ := za1 hl _ h30 gq
  repeat' (first
  | (refine zaf ?_; simp [hne, del])
  | (refine zal ?_; simp [hne, del])
  | (refine zah ?_; simp [hne, del])
  | fail)
  (refine CallP.pp (zgG l q30 3 _ (by first | omega | (simp; done) | (simp; omega) | fail) g30 hl hl2) (by first | (simp [hi, hne, del, zer, Exp.row_eq, zaa, getK, zab, zac]; done) | fail) (by rfl) (by first | assumption | (simp; done) | fail) (by rfl) (by simp) (fun due q31 h31 => ?_) (fun pos e q' h31 => ⟨_, Wk.refl _, ?_⟩); rotate_left 1; (focus (rw [h31, PR.zaN] at hR; (refine hpan _ _ ⟨{ n := _, env := [], obs := [(3, pOb l q')], next := 4 }, (Wk.cut rfl (by simp [hn]) (by simp [wkO, zaa, getK, zab, zac, Ob.under, D.under, zad, zae, hi, hne, del, zer, Exp.row_eq, zab, zac, zaa, getK]) (by simp [wkU, zan, zaa, getK, D.under, hi, hne, del, zer, Exp.row_eq, zab, zac, zaa, getK]) (by simp [wkE, zan, zaa, getK, hi, hne, del, zer, Exp.row_eq, zab, zac, zaa, getK])), by simp [hn], ?_⟩; try simp); exact PPost.zaw hR.symm)); rw [h31, PR.zav] at hR; (try simp [hi, hne, del, zer, Exp.row_eq]))
  obtain ⟨_, g31⟩ := zgI hl h31 g30
  repeat' (first
  | (refine zaf ?_; simp [hne, del])
  | (refine zal ?_; simp [hne, del])
  | (refine zah ?_; simp [hne, del])
  | fail)
  (refine CallP.pp (zeU l q31 [102, 105, 110, 101] 3 _ (by first | omega | (simp; done) | (simp; omega) | fail) g31 hl hl2) (by first | (simp [hi, hne, del, zer, Exp.row_eq, zaa, getK, zab, zac]; done) | fail) (by rfl) (by first | assumption | (simp; done) | fail) (by rfl) (by simp) (fun fine q32 h32 => ?_) (fun pos e q' h32 => ⟨_, Wk.refl _, ?_⟩); rotate_left 1; (focus (rw [h32, PR.zaN] at hR; (refine hpan _ _ ⟨{ n := _, env := [], obs := [(3, pOb l q')], next := 4 }, (Wk.cut rfl (by simp [hn]) (by simp [wkO, zaa, getK, zab, zac, Ob.under, D.under, zad, zae, hi, hne, del, zer, Exp.row_eq, zab, zac, zaa, getK]) (by simp [wkU, zan, zaa, getK, D.under, hi, hne, del, zer, Exp.row_eq, zab, zac, zaa, getK]) (by simp [wkE, zan, zaa, getK, hi, hne, del, zer, Exp.row_eq, zab, zac, zaa, getK])), by simp [hn], ?_⟩; try simp); exact PPost.zaw hR.symm)); rw [h32, PR.zav] at hR; (try simp [hi, hne, del, zer, Exp.row_eq]))
  obtain ⟨_, g32⟩ := zeV hl h32 g31
  repeat' (first
  | (refine zaf ?_; simp [hne, del])
  | fail)
  (refine CallP.pp (zeU l q32 [112, 97, 121] 3 _ (by first | omega | (simp; done) | (simp; omega) | fail) g32 hl hl2) (by first | (simp [hi, hne, del, zer, Exp.row_eq, zaa, getK, zab, zac]; done) | fail) (by rfl) (by first | assumption | (simp; done) | fail) (by rfl) (by simp) (fun pay q33 h33 => ?_) (fun pos e q' h33 => ⟨_, Wk.refl _, ?_⟩); rotate_left 1; (focus (rw [h33, PR.zaN] at hR; (refine hpan _ _ ⟨{ n := _, env := [], obs := [(3, pOb l q')], next := 4 }, (Wk.cut rfl (by simp [hn]) (by simp [wkO, zaa, getK, zab, zac, Ob.under, D.under, zad, zae, hi, hne, del, zer, Exp.row_eq, zab, zac, zaa, getK]) (by simp [wkU, zan, zaa, getK, D.under, hi, hne, del, zer, Exp.row_eq, zab, zac, zaa, getK]) (by simp [wkE, zan, zaa, getK, hi, hne, del, zer, Exp.row_eq, zab, zac, zaa, getK])), by simp [hn], ?_⟩; try simp); exact PPost.zaw hR.symm)); rw [h33, PR.zav] at hR; (try simp [hi, hne, del, zer, Exp.row_eq]))
  obtain ⟨_, g33⟩ := zeV hl h33 g32
  repeat' (first
  | (refine zaf ?_; simp [hne, del])
  | fail)
  (refine CallP.pp (zeU l q33 [99, 111, 118, 101, 114] 3 _ (by first | omega | (simp; done) | (simp; omega) | fail) g33 hl hl2) (by first | (simp [hi, hne, del, zer, Exp.row_eq, zaa, getK, zab, zac]; done) | fail) (by rfl) (by first | assumption | (simp; done) | fail) (by rfl) (by simp) (fun cover q34 h34 => ?_) (fun pos e q' h34 => ⟨_, Wk.refl _, ?_⟩); rotate_left 1; (focus (rw [h34, PR.zaN] at hR; (refine hpan _ _ ⟨{ n := _, env := [], obs := [(3, pOb l q')], next := 4 }, (Wk.cut rfl (by simp [hn]) (by simp [wkO, zaa, getK, zab, zac, Ob.under, D.under, zad, zae, hi, hne, del, zer, Exp.row_eq, zab, zac, zaa, getK]) (by simp [wkU, zan, zaa, getK, D.under, hi, hne, del, zer, Exp.row_eq, zab, zac, zaa, getK]) (by simp [wkE, zan, zaa, getK, hi, hne, del, zer, Exp.row_eq, zab, zac, zaa, getK])), by simp [hn], ?_⟩; try simp); exact PPost.zaw hR.symm)); rw [h34, PR.zav] at hR; (try simp [hi, hne, del, zer, Exp.row_eq]))
  obtain ⟨_, g34⟩ := zeV hl h34 g33
  repeat' (first
  | (refine zaf ?_; simp [hne, del])
  | fail)
  (refine CallP.pp (zeU l q34 [104, 111, 108, 100] 3 _ (by first | omega | (simp; done) | (simp; omega) | fail) g34 hl hl2) (by first | (simp [hi, hne, del, zer, Exp.row_eq, zaa, getK, zab, zac]; done) | fail) (by rfl) (by first | assumption | (simp; done) | fail) (by rfl) (by simp) (fun hold q35 h35 => ?_) (fun pos e q' h35 => ⟨_, Wk.refl _, ?_⟩); rotate_left 1; (focus (rw [h35, PR.zaN] at hR; (refine hpan _ _ ⟨{ n := _, env := [], obs := [(3, pOb l q')], next := 4 }, (Wk.cut rfl (by simp [hn]) (by simp [wkO, zaa, getK, zab, zac, Ob.under, D.under, zad, zae, hi, hne, del, zer, Exp.row_eq, zab, zac, zaa, getK]) (by simp [wkU, zan, zaa, getK, D.under, hi, hne, del, zer, Exp.row_eq, zab, zac, zaa, getK]) (by simp [wkE, zan, zaa, getK, hi, hne, del, zer, Exp.row_eq, zab, zac, zaa, getK])), by simp [hn], ?_⟩; try simp); exact PPost.zaw hR.symm)); rw [h35, PR.zav] at hR; (try simp [hi, hne, del, zer, Exp.row_eq]))
  obtain ⟨_, g35⟩ := zeV hl h35 g34
  obtain ⟨t, ht⟩ : ∃ t, l[q35]? = some t := ⟨_, List.getElem?_eq_getElem g35⟩
  have hnx := zbW l q35 t ht hl.len
  repeat' (first
  | (refine zaf ?_; simp [hne, del])
  | (refine zal ?_; simp [hne, del])
  | (refine zah ?_; simp [hne, del])
  | (refine CallP.fE (hnx) (by first | rfl | fail) (by first | (simp [hne, del]; done) | (simp [hne, del]; rfl) | fail) ?_; (try simp [hne, del]))
  | fail)
  (refine CallP.pp (zqm ht 3 _ (by first | omega | (simp; done) | (simp; omega) | fail) hl) (by first | (simp [hi, hne, del, zaa, getK, zab, zac]; done) | fail) (by rfl) (by first | assumption | (simp; done) | fail) (by rfl) (by simp) (fun u36 q36 h36 => ?_) (fun pos e q' h36 => ⟨_, Wk.refl _, ?_⟩); rotate_left 1; (focus (rw [h36, PR.zaN] at hR; (refine hpan _ _ ⟨{ n := _, env := [], obs := [(3, pOb l q')], next := 4 }, (Wk.cut rfl (by simp [hn]) (by simp [wkO, zaa, getK, zab, zac, Ob.under, D.under, zad, zae, hi, hne, del, zab, zac, zaa, getK]) (by simp [wkU, zan, zaa, getK, D.under, hi, hne, del, zab, zac, zaa, getK]) (by simp [wkE, zan, zaa, getK, hi, hne, del, zab, zac, zaa, getK])), by simp [hn], ?_⟩; try simp); exact PPost.zaw hR.symm)); rw [h36, PR.zav] at hR; (try simp [hi, hne, del]))
  obtain rfl := zq1 h36
  repeat' (first
  | (refine zaf ?_; simp [hne, del])
  | (refine zal ?_; simp [hne, del])
  | (refine zah ?_; simp [hne, del])
  | (refine zar ?_; simp only [zao])
  | fail)
  (refine EndW.frzN 1 ?_; simp [frzN, frz1, zay, zax, St.frz, St.frzS, frzS, fv, zaz, za5, za8, zaF, zat, zaj, del, frz, za9, hAl, htk])
  refine EndW.norm ?_
  simp [St.norm, zbl, zb8, zcx, zcy, hne]
  (refine EndW.here ?_; (first | (refine EndOK.fin (.inr rfl) ?_) | (refine EndOK.fin (.inl rfl) ?_)); simp [zaL, zag, Tryz.results37, hne, hi]; refine FinOK.cut [(3, pOb l q36)] (4) (by simp [zaa, getK, zab, zac, Ob.under, D.under, zad, zae, hne, hi] <;> omega) (by simp [D.under]) (by simp [hn]) ?_; try simp)
  exact PPost.zcw hR.symm (by simp [zbc, ← hA, zgl]) rfl
def zeY : By := ⟨0, 0, 0, 0, 0, 0, false, 0, 0, 0, 0, [], zd0, zd0, zd0, zd0, zd0⟩
/-- What Parse returns: the bylaws, the place, the error. -/
def zfh (s : W8) : By × Int × Int := match ziZ s with
 | .error (p, e) => (zeY, p, e)
 | .ok l => match zob l with
  | .stop pos e => (zeY, pos, e)
  | .ok b _ => (b, 0, 0)
def zq6 (r : By × Int × Int) : D := .tup [.u (.agg (zbc r.1)), .u (.int .i64 r.2.1), .u (.int .i64 r.2.2)]
abbrev zpo : Ob := .box [.u (.int .i64 0), .u (.int .i64 0), .u (.int .i64 0), .u (.int .i64 0), .u (.int .i64 0), .u (.int .i64 0), .u (.bool false), .u (.int .i64 0), .u (.int .i64 0), .u (.int .i64 0), .u (.int .i64 0), .u .nil, .u (.int .i64 0), .u (.int .i64 0), .u (.int .i64 0), .u (.str []), .u .nil, .u (.int .i64 0), .u (.int .i64 0), .u (.int .i64 0), .u (.str []), .u .nil, .u (.int .i64 0), .u (.int .i64 0), .u (.int .i64 0), .u (.str []), .u .nil, .u (.int .i64 0), .u (.int .i64 0), .u (.int .i64 0), .u (.str []), .u .nil, .u (.int .i64 0), .u (.int .i64 0), .u (.int .i64 0), .u (.str []), .u .nil]
theorem zpt (i j q nx : Nat) (hi : i < nx) (hj : j < nx) (hq : q < nx) (hij : i ≠ j) (hiq : i ≠ q) (hjq : j ≠ q) (p e : Int) (cells : List U) :
  RetDf Tryz.prog 35 [.ptr i 0, .ptr j 0, .ptr q 0] [(i, .box [.u (.int .i64 p)]), (j, .box [.u (.int .i64 e)]), (q, .box (cells.map .u))] nx .returning
   (fun u o n => settle u = .returning ∧ n = nx ∧ o = [(i, .box [.u (.int .i64 p)]), (j, .box [.u (.int .i64 e)]), (q, .box (cells.map .u))]) := by
 have hne := zaB hi
 have hne2 := zaB hj
 have hne3 := zaB hq
 have hc0 := zhn i j nx hi hj hij p e
 refine RetDf.of_body Tryz.func35 rfl (by simp) (by simp) rfl fun Γ hn => ?_
 simp [entry, zkv, Tryz.ntmps35]
 refine CallP.x2 hc0 (by simp [getK]) (by simp [getK, hij, Ne.symm hij]) hij rfl rfl (by simp) (by simp) (fun d o1 nx' hnx h => ?_) (fun ch o1 nx' hnx h => by cases h.1)
 obtain ⟨h1, rfl, h4⟩ := h
 have h4 := h4.symm
 subst h4
 cases h1
 simp [del, hij, Ne.symm hij, hiq, hjq, Ne.symm hiq, Ne.symm hjq]
 repeat' (first
  | (refine zai ?_; simp [hij, hiq, hjq])
  | (refine zap ?_; simp only [zao])
  | fail)
 (refine ⟨by simp, { n := _, env := [], obs := [(i, .box [.u (.int .i64 p)]), (j, .box [.u (.int .i64 e)]), (q, .box (cells.map .u))], next := nx }, (Wk.cut rfl (by simp [hn]) (by simp [wkO, zaa, getK, zab, zac, Ob.under, D.under, zad, zae, hi, hj, hq, hne, hne2, hne3, hij, hiq, hjq, Ne.symm hij, Ne.symm hiq, Ne.symm hjq]) (by simp [wkU, zan, zaa, getK, D.under, hi, hj, hq, hne, hne2, hne3, hij, hiq, hjq, Ne.symm hij, Ne.symm hiq, Ne.symm hjq]) (by simp [wkE, zan, zaa, getK, hi, hj, hq, hne, hne2, hne3, hij, hiq, hjq, Ne.symm hij, Ne.symm hiq, Ne.symm hjq])), by simp [hn], ?_⟩; try simp)
 all_goals rfl
theorem zpu (i j q nx : Nat) (hi : i < nx) (hj : j < nx) (hq : q < nx) (hij : i ≠ j) (hiq : i ≠ q) (hjq : j ≠ q) (p e pos err : Int) :
  RetDf Tryz.prog 35 [.ptr i 0, .ptr j 0, .ptr q 0] [(i, .box [.u (.int .i64 p)]), (j, .box [.u (.int .i64 e)]), (q, zpo)] nx (.panicking (chP pos err))
   (fun u o n => settle u = .returning ∧ n = nx ∧ o = [(i, .box [.u (.int .i64 pos)]), (j, .box [.u (.int .i64 err)]), (q, zpo)]) := by
 have hne := zaB hi
 have hne2 := zaB hj
 have hne3 := zaB hq
 have hc0 := zhm i j nx hi hj hij p e pos err
 refine RetDf.of_body Tryz.func35 rfl (by simp) (by simp) rfl fun Γ hn => ?_
 simp [entry, zkv, chP, Tryz.ntmps35]
 refine CallP.x2 hc0 (by simp [getK]) (by simp [getK, hij, Ne.symm hij]) hij rfl rfl (by simp) (by simp) (fun d o1 nx' hnx h => ?_) (fun ch o1 nx' hnx h => by cases h.1)
 obtain ⟨h1, rfl, h4⟩ := h
 have h4 := h4.symm
 subst h4
 cases h1
 simp [del, hij, Ne.symm hij, hiq, hjq, Ne.symm hiq, Ne.symm hjq]
 repeat' (first
  | (refine zaf ?_; simp [hij, hiq, hjq])
  | (refine zal ?_; simp [hij, hiq, hjq])
  | (refine zai ?_; simp [hij, hiq, hjq])
  | (refine zaC ?_; simp [hij, hiq, hjq])
  | fail)
 (refine ⟨by simp, { n := _, env := [], obs := [(i, .box [.u (.int .i64 pos)]), (j, .box [.u (.int .i64 err)]), (q, zpo)], next := nx }, (Wk.cut rfl (by simp [hn]) (by simp [wkO, zaa, getK, zab, zac, Ob.under, D.under, zad, zae, hi, hj, hq, hne, hne2, hne3, hij, hiq, hjq, Ne.symm hij, Ne.symm hiq, Ne.symm hjq]) (by simp [wkU, zan, zaa, getK, D.under, hi, hj, hq, hne, hne2, hne3, hij, hiq, hjq, Ne.symm hij, Ne.symm hiq, Ne.symm hjq]) (by simp [wkE, zan, zaa, getK, hi, hj, hq, hne, hne2, hne3, hij, hiq, hjq, Ne.symm hij, Ne.symm hiq, Ne.symm hjq])), by simp [hn], ?_⟩; try simp)
 all_goals rfl
theorem zna (s : W8) : RetX Tryz.prog 10 [.u (.str s)] [] 0 (fun r o n => r = .val (zq6 (zfh s))) := by
 skip
 unfold zfh
 cases hlx : ziZ s with
 | error pe =>
  obtain ⟨p, e⟩ := pe
  have ho := fun nx => zk5 s p e nx hlx
  have he := (zlc hlx).1
  simp only
  (refine RetX.zdC Tryz.func10 rfl (by simp) fun Γ hn hdfr hpan hesc => ?_); simp only [entry, List.zipIdx_cons, List.zipIdx_nil, List.map_cons, List.map_nil, Nat.zero_add, Tryz.ntmps10]
  repeat' (first
  | (refine zaf ?_; simp [he])
  | (refine zbt rfl ?_; simp [he])
  | (refine zcc rfl ?_; simp [he])
  | (refine zal ?_; simp [he])
  | (refine zah ?_; simp [he])
  | (refine zai ?_; simp [he])
  | (refine zbQ (hC _ (by kernel_rfl)) (hk _ ?_); clear hC hk C k; simp only [zao])
  | (refine zb6 rfl (by kernel_rfl) (by first | (simp [hn]; done) | (simp [hn]; omega) | fail) fun C k hC hk => ?_; simp [he])
  | (refine zar ?_; simp only [zao])
  | (refine CallP.okL (ho _) (by first | (simp [he, zaa, getK, zab, zac, zak, zaJ, del]; done) | fail) (by rfl) (by rfl) ?_; (try simp [he, zdf, del]))
  | fail)
  refine EndW.norm ?_
  simp [St.norm, zbl, zb8, zcx, zcy]
  (refine EndW.here ?_; (first | (refine EndOK.fin (.inr rfl) ?_) | (refine EndOK.fin (.inl rfl) ?_)); simp [zaL, zag, Tryz.results10]; refine FinOK.here (by simp) ?_; try simp)
  simp [zq6, zbc, zeY, zd0, Exp.op, Exp.n, Exp.unit, Exp.s, Exp.args]
 | ok l =>
  obtain ⟨hl, hl2, hl0⟩ := znz hlx
  have ho := fun nx => znj s l nx hlx
  have hE := zmJ l hl0 hl hl2
  simp only
  cases hr : zob l with
  | stop pos e =>
   simp only [hr] at hE ⊢
   (refine RetX.zdC Tryz.func10 rfl (by simp) fun Γ hn hdfr hpan hesc => ?_); simp only [entry, List.zipIdx_cons, List.zipIdx_nil, List.map_cons, List.map_nil, Nat.zero_add, Tryz.ntmps10]
   rw [zdE]
   repeat' (first
  | (refine zaf ?_; simp)
  | (refine zal ?_; simp)
  | (refine zah ?_; simp)
  | (refine zai ?_; simp)
  | (refine zap ?_; simp only [zao])
  | (refine CallP.okL (ho _) (by first | (simp [zaa, getK, zab, zac, zak, zaJ, del]; done) | fail) (by rfl) (by rfl) ?_; (try simp [zdf, del]))
  | fail)
   refine zf8 hesc hdfr rfl (by simp) ?_
   have hn0 := hn
   have hpan0 := hpan
   intro Γ' hn hpan
   simp
   repeat' (first
  | (refine zaf ?_; simp)
  | (refine zah ?_; simp)
  | (refine CallP.zeb (hE) (by first | (simp [zaa, getK, zab, zac]; done) | fail) (by rfl) (by first | assumption | (simp; done) | fail) (by rfl) (by simp) ?_; rintro ob' ⟨q', rfl⟩; refine ⟨_, Wk.refl _, ?_⟩)
  | fail)
   refine hpan _ _ ?_
   refine LeaveD.of [(1, .box [.u (.int .i64 0)]), (2, .box [.u (.int .i64 0)]), (0, zpo)] (by simp [zaa, getK, zab, zac]) (zpu 1 2 0 _ (by simp) (by simp) (by simp) (by decide) (by decide) (by decide) 0 0 _ _) ?_
   simp only [show Γ.base.n0 = 0 from hn0]
   simp [zdf, del]
   refine EndW.norm ?_
   simp [St.norm, zbl, zb8, zcx, zcy]
   (refine EndW.here ?_; (first | (refine EndOK.fin (.inr rfl) ?_) | (refine EndOK.fin (.inl rfl) ?_)); simp [zaL, zag, Tryz.results10]; refine FinOK.here (by simp) ?_; try simp)
   simp [zq6, zbc, zeY, zd0, Exp.op, Exp.n, Exp.unit, Exp.s, Exp.args]
  | ok b q =>
   have hEx : RetX Tryz.prog 37 [.ptr 3 0] [(3, pOb l 0)] 4 (fun r o n => r = .val (.u (.agg (zbc b))) ∧ o = [(3, pOb l q)] ∧ n = 4) := by
    rw [hr] at hE
    exact hE
   unfold zbc at hEx
   (refine RetX.zdC Tryz.func10 rfl (by simp) fun Γ hn hdfr hpan hesc => ?_); simp only [entry, List.zipIdx_cons, List.zipIdx_nil, List.map_cons, List.map_nil, Nat.zero_add, Tryz.ntmps10]
   rw [zdE]
   repeat' (first
  | (refine zaf ?_; simp)
  | (refine zal ?_; simp)
  | (refine zah ?_; simp)
  | (refine zai ?_; simp)
  | (refine zap ?_; simp only [zao])
  | (refine CallP.okL (ho _) (by first | (simp [zaa, getK, zab, zac, zak, zaJ, del]; done) | fail) (by rfl) (by rfl) ?_; (try simp [zdf, del]))
  | fail)
   refine zf8 hesc hdfr rfl (by simp) ?_
   have hn0 := hn
   have hpan0 := hpan
   intro Γ' hn hpan
   simp
   repeat' (first
  | (refine zaf ?_; simp [del])
  | (refine zal ?_; simp [del])
  | (refine zah ?_; simp [del])
  | (refine zar ?_; simp only [zao])
  | (refine CallP.ok1 (hEx) (by first | (simp [del, zaa, getK, zab, zac]; done) | fail) (by rfl) (by rfl) ?_; (try simp [del]))
  | fail)
   refine ⟨rfl, ?_⟩
   refine LeaveD.of [(1, .box [.u (.int .i64 0)]), (2, .box [.u (.int .i64 0)]), (0, .box ((zbc b).map .u))] (by simp [zaa, getK, zab, zac, zbc]) (zpt 1 2 0 _ (by simp) (by simp) (by simp) (by decide) (by decide) (by decide) 0 0 _) ?_
   simp only [show Γ.base.n0 = 0 from hn0]
   simp [zdf, del, zbc]
   (refine EndW.here ?_; (first | (refine EndOK.fin (.inr rfl) ?_) | (refine EndOK.fin (.inl rfl) ?_)); simp [zaL, zag, Tryz.results10]; refine FinOK.here (by simp) ?_; try simp)
   simp [zq6, zbc]
theorem zjt (s : W8) : Fun Tryz.prog 10 [.u (.str s)] (· = .tup [byD (zfh s).1, .u (.int .i64 (zfh s).2.1), .u (.int .i64 (zfh s).2.2)]) := by
 unfold Fun
 exact (zna s).ret (fun d o n h => by
  cases h
  exact ⟨by simp [zq6, zas], rfl⟩) (fun ch o n h => by cases h)
end Go.Proofs.YthnemhfamhnfjaaGreatDoor
