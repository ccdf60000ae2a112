/- Texts joined by a program of mine: Es Za Zb Zc Zd Ze#p Yu Qe#p Ze Qb Qe Qd Qf. -/
import Derived.Test.YtepiegcjnaohjaaGreatDoorK6
set_option linter.all false
set_option maxRecDepth 100000
set_option maxHeartbeats 8000000
namespace Go.Proofs.YtepiegcjnaohjaaGreatDoor
open Go Go.VL
attribute [local simp] HS zc8 zb5 evPure opd uOf zaG St.put St.at getK binD binI binS binB nilD aggD zgN zhG lookD lookR zcF Go.VL.nextD zcH zhM zhH zfY zb4 mkV zbl zbf zbe zbd zc5 za8 zbt zbG mapEff zdl zfy Key.kk shiftI arith unD convD zdL loadD cellsAt fieldAddrD fieldD indexAddrD indexD sliceD cutD lenD minmaxD nilCheckD buildD fillD zbY zdg ze1 setAll zcV zeA zcw zht zct St.add zaM zbP rowsOf zdG zcK zan zac zaa zbi zcN zaK entry zbE zbI valD zb8 zcg zgC zds zdt zb1 zbK zaz zaX zbz delAll effD St.effS zc6 zbg zaZ zc7 zbh za1 zch za0 zaT zci zcW zbL zcc zbs zca zcb zaR mkD zbk zbC zbQ zaz zcv D.ids Op.operands Call.operands zbu makeIfD makeFuncD typeAssertD zhF zdy zdz zhE zcG IntKind.bits zb9 zaS List.take_of_length_le List.range_succ
attribute [local irreducible] V G H HD HD2 HD4 zoD RetX zao Eff CallP CallV EndOK Fun Ret FinOK LoopI LoopW EndW
theorem znA {s : List UInt8} : ∀ (f p : Nat) (l : List Tok), znB f s p = .ok l → s.length < p + f → p ≤ s.length →
  (∀ (i : Nat) (t : Tok), l[i]? = some t → t.kind ≠ 0 → i + 1 < l.length) ∧ l.length ≤ s.length - p + 1 ∧ 0 < l.length
 | 0, p, l, _, h2, h3 => by omega
 | f + 1, p, l, h, h2, h3 => by
  rw [znB] at h
  have hle := zdN zcd (s.drop p)
  rw [List.length_drop] at hle
  split at h
  ·cases h
   refine ⟨fun i t hi hk => ?_, by simp, by simp⟩
   rcases i with _ | i
   ·simp at hi
    subst hi
    exact absurd rfl hk
   ·simp at hi
  ·rename_i c r hd
   have hdl : (s.drop (p + zcJ zcd (s.drop p))).length = r.length + 1 := by rw [hd]; rfl
   rw [List.length_drop] at hdl
   split at h
   ·cases h
   ·rename_i t ht
    obtain ⟨ht1, ht2⟩ := zf7 ht
    simp only [List.length_cons] at ht2
    split at h
    ·cases h
    ·rename_i l' hl'
     cases h
     obtain ⟨g1, g2, g3⟩ := znA f _ l' hl' (by omega) (by omega)
     refine ⟨fun i t' hi hk => ?_, by simp only [List.length_cons]; omega, by simp⟩
     rcases i with _ | i
     ·simp; exact g3
     ·simp only [List.getElem?_cons_succ] at hi
      have := g1 i t' hi hk
      simp only [List.length_cons]
      omega
theorem zqD {s : List UInt8} {l : List Tok} (h : zmG s = .ok l) : TokOK l ∧ l.length ≤ 2001 ∧ 0 < l.length := by
 unfold zmG at h
 split at h
 ·cases h
 ·obtain ⟨g1, g2, g3⟩ := znA _ _ _ h (by omega) (by omega)
  exact ⟨⟨g1, by omega⟩, by omega, g3⟩
theorem Exp.zkq {op n u : Int} {s : List UInt8} {args : List Exp} {B : Int} (h : ∀ x ∈ args, x.lev ≤ B) (h0 : 0 ≤ B) : (Exp.mk op n u s args).lev ≤ B + 1 := by
 rw [Exp.zhD]
 simp only [Exp.args]
 have : ∀ (l : List Int) (a : Int), a ≤ B → (∀ x ∈ l, x ≤ B) → l.foldl max a ≤ B := by
  intro l
  induction l with
  | nil => intro a ha _; exact ha
  | cons b l ih => intro a ha hl; exact ih _ (by have := hl b (by simp); omega) fun x hx => hl x (by simp [hx])
 have := this (args.map Exp.lev) 0 h0 (fun x hx => by obtain ⟨y, hy, rfl⟩ := List.mem_map.1 hx; exact h y hy)
 omega
theorem zjJ {l : List Tok} : ∀ (f : Nat),
  (∀ p form e q, zez l f p form = .ok e q → e.lev ≤ f * f + 1) ∧
  (∀ form e own p e' q, zfg l f form e own p = .ok e' q → e'.lev ≤ max e.lev (f * f + 1) + f) ∧
  (∀ p form e q, zbM l f p form = .ok e q → e.1.lev ≤ f * f + 1) ∧
  (∀ p e q, zba l f p = .ok e q → e.lev ≤ f * f + 1)
 | 0 => ⟨fun _ _ _ _ h => by simp [zez] at h, fun _ _ _ _ _ _ h => by simp [zfg] at h, fun _ _ _ _ h => by simp [zbM] at h, fun _ _ _ h => by simp [zba] at h⟩
 | f + 1 => by
  obtain ⟨he, hlo, hpr, hpm⟩ := zjJ f
  have hsq : ((f + 1 : Nat) : Int) * ((f + 1 : Nat) : Int) = (f : Int) * f + 2 * f + 1 := by
   rw [show ((f + 1 : Nat) : Int) = (f : Int) + 1 by omega, Int.add_mul, Int.mul_add]; omega
  rw [hsq]
  have h0 : (0 : Int) ≤ (f : Int) * f := Int.mul_nonneg (by omega) (by omega)
  generalize hF : (f : Int) * f = F at *
  refine ⟨fun p form e q h => ?_, fun form e own p e' q h => ?_, fun p form e q h => ?_, fun p e q h => ?_⟩
  ·rw [zez] at h
   obtain ⟨a, r, h1, h2⟩ := PR.zaH h
   have g1 := hpr _ _ _ _ h1
   have g2 := hlo _ _ _ _ _ _ h2
   omega
  ·rw [zfg] at h
   split at h
   ·cases h; omega
   ·split at h
    ·cases h; omega
    ·obtain ⟨a, r, h1, h2⟩ := PR.zaH h
     have g1 := he _ _ _ _ h1
     have g2 := hlo _ _ _ _ _ _ h2
     rename_i x _ _
     have g3 := Exp.zkq (op := x.op) (n := 0) (u := 0) (s := []) (args := [e, a]) (B := max e.lev (F + 1)) (by
      intro y hy
      simp only [List.mem_cons, List.not_mem_nil, or_false] at hy
      rcases hy with rfl | rfl <;> omega) (by omega)
     omega
  ·rw [zbM] at h
   split at h
   ·obtain ⟨a, r, h1, h⟩ := PR.zaH h
    obtain ⟨_, r2, h2, h⟩ := PR.zaH h
    obtain ⟨b, r3, h3, h⟩ := PR.zaH h
    obtain ⟨_, r4, h4, h⟩ := PR.zaH h
    obtain ⟨c, r5, h5, h⟩ := PR.zaH h
    cases h
    have g1 := he _ _ _ _ h1
    have g3 := he _ _ _ _ h3
    have g5 := he _ _ _ _ h5
    have := Exp.zkq (op := 13) (n := 0) (u := 0) (s := []) (args := [a, b, c]) (B := F + 1) (by
     intro y hy
     simp only [List.mem_cons, List.not_mem_nil, or_false] at hy
     rcases hy with rfl | rfl | rfl <;> omega) (by omega)
    simp only
    omega
   ·split at h
    ·obtain ⟨a, r, h1, h⟩ := PR.zaH h
     cases h
     have g1 := he _ _ _ _ h1
     have := Exp.zkq (op := 12) (n := 0) (u := 0) (s := []) (args := [a]) (B := F + 1) (by
      intro y hy
      simp only [List.mem_cons, List.not_mem_nil, or_false] at hy
      rcases hy with rfl; omega) (by omega)
     simp only
     omega
    ·obtain ⟨a, r, h1, h⟩ := PR.zaH h
     cases h
     have g1 := hpm _ _ _ h1
     simp only
     omega
  ·have leaf : ∀ (op n u : Int) (s : List UInt8), (Exp.mk op n u s []).lev ≤ F + 2 * f + 1 + 1 := fun op n u s => by
    have := Exp.zkq (op := op) (n := n) (u := u) (s := s) (args := []) (B := 0) (by simp) (by omega)
    omega
   rw [zba] at h
   split at h
   ·cases h
   ·split at h
    ·obtain ⟨a, r, h1, h⟩ := PR.zaH h
     cases h; exact leaf ..
    split at h
    ·cases h; exact leaf ..
    split at h
    ·cases h; exact leaf ..
    split at h
    ·obtain ⟨_, r2, h2, h⟩ := PR.zaH h
     obtain ⟨a, r3, h3, h⟩ := PR.zaH h
     obtain ⟨_, r4, h4, h⟩ := PR.zaH h
     obtain ⟨b, r5, h5, h⟩ := PR.zaH h
     obtain ⟨_, r6, h6, h⟩ := PR.zaH h
     have g3 := he _ _ _ _ h3
     have g5 := he _ _ _ _ h5
     have := Exp.zkq (op := if isB l p [109, 97, 120] = true then 7 else 6) (n := 0) (u := 0) (s := []) (args := [a, b]) (B := F + 1) (by
      intro y hy
      simp only [List.mem_cons, List.not_mem_nil, or_false] at hy
      rcases hy with rfl | rfl <;> omega) (by omega)
     cases h
     omega
    split at h
    ·obtain ⟨a, r3, h3, h⟩ := PR.zaH h
     obtain ⟨_, r4, h4, h⟩ := PR.zaH h
     cases h
     have g3 := he _ _ _ _ h3
     omega
    split at h
    ·cases h; exact leaf ..
    ·cases h
def zrL (l : List Tok) (p : Nat) : Int := match l[p]? with | some t => t.kind | none => 0
def zgR : Exp := .mk 0 0 0 [] []
theorem zl5 (l : List Tok) (p : Nat) (a b : Int) (i nx : Nat) (hi : i < nx) (hp : p < l.length) (hl : TokOK l) :
  RetX Tryz.prog 201 [.ptr i 0, ziX a, ziX b] [(i, pOb l p)] nx (PPost l i nx ziX (zrs l p a b)) := by
 have hne := zaU hi
 obtain ⟨t, ht⟩ : ∃ t, l[p]? = some t := ⟨_, List.getElem?_eq_getElem hp⟩
 have hnx := zcj l p t ht hl.len
 have hll := hl.len
 have hc1 := fun e nx' (h : nx ≤ nx') => zfd l p e i nx' (by omega)
 have hc2 := fun e nx' (h : nx ≤ nx') => zdK l p t e i nx' (by omega) ht hl.len
 rw [zrs, ht]
 by_cases hk2 : t.kind = 2
 ·simp only [hk2, if_true]
  by_cases h1 : a ≤ t.n
  ·by_cases h2 : t.n ≤ b
   ·simp only [h1, h2, and_self, if_true]
    (refine RetX.of_bodyW Tryz.func201 rfl (by simp) fun Γ hn hpan => ?_); simp only [entry, ziC, ziN, maC, maN, oA, Tryz.ntmps201]
    repeat' (first
  | ((first | refine zag ?_ | refine zak ?_ | fail); simp [hne, hk2, h1, h2, del])
  | (refine ⟨by omega, ?_⟩)
  | (refine zah ?_; simp [hne, hk2, h1, h2, del])
  | (refine zau ?_; simp only [zao])
  | (refine CallP.fE (hnx) (by first | rfl | fail) (by first | simp [hne, hk2, h1, h2, del] <;> rfl | fail) ?_; (try simp [hne, hk2, h1, h2, del]))
  | (refine CallP.ok1 (hc1 _ _ (by first | omega | simp <;> omega | fail)) (by first | (simp [hne, hk2, h1, h2, del, zaa, getK, zab, zac]; done) | fail) (by rfl) (by rfl) ?_; (try simp [hne, hk2, h1, h2, del]))
  | fail)
    (refine EndW.here ?_; (first | (refine EndOK.fin (.inr rfl) ?_) | (refine EndOK.fin (.inl rfl) ?_)); simp [zaI, zaf, Tryz.results201, hne, hi]; refine FinOK.cut [(i, pOb l (p + 1))] (nx) (by simp [zaa, getK, zab, zac, Ob.under, D.under, zad, zae, hne, hi] <;> omega) (by simp [D.under]) (by simp [hn]) ?_; try simp)
    exact PPost.zcE rfl rfl rfl
   ·simp only [h1, h2, and_false, if_false]
    (refine RetX.of_bodyW Tryz.func201 rfl (by simp) fun Γ hn hpan => ?_); simp only [entry, ziC, ziN, maC, maN, oA, Tryz.ntmps201]
    repeat' (first
  | ((first | refine zag ?_ | refine zak ?_ | refine zah ?_ | fail); simp [hne, hk2, h1, h2, del])
  | (refine CallP.fE (hnx) (by first | rfl | fail) (by first | simp [hne, hk2, h1, h2, del] <;> rfl | fail) ?_; (try simp [hne, hk2, h1, h2, del]))
  | (refine CallP.ok1 (hc1 _ _ (by first | omega | simp <;> omega | fail)) (by first | (simp [hne, hk2, h1, h2, del, zaa, getK, zab, zac]; done) | fail) (by rfl) (by rfl) ?_; (try simp [hne, hk2, h1, h2, del]))
  | (refine CallP.zeB (hc2 _ _ (by first | omega | simp <;> omega | fail)) (by first | (simp [hne, hk2, h1, h2, del, zaa, getK, zab, zac]; done) | fail) (by rfl) (by first | assumption | (simp; done) | fail) (by rfl) (by simp) ?_; rintro ob' ⟨q', rfl⟩; refine ⟨_, Wk.refl _, ?_⟩)
  | fail)
    (refine hpan _ _ ⟨{ n := _, env := [], obs := [(i, pOb l q')], next := nx }, (Wk.cut rfl (by simp [hn]) (by simp [wkO, zaa, getK, zab, zac, Ob.under, D.under, zad, zae, hi, hne, zab, zac, zaa, getK]) (by simp [wkU, zal, zaa, getK, D.under, hi, hne, zab, zac, zaa, getK]) (by simp [wkE, zal, zaa, getK, hi, hne, zab, zac, zaa, getK])), by simp [hn], ?_⟩; try simp)
    exact PPost.zaD (by simp [PR.bind, *])
  ·simp only [h1, false_and, if_false]
   (refine RetX.of_bodyW Tryz.func201 rfl (by simp) fun Γ hn hpan => ?_); simp only [entry, ziC, ziN, maC, maN, oA, Tryz.ntmps201]
   repeat' (first
  | ((first | refine zag ?_ | refine zak ?_ | refine zah ?_ | fail); simp [hne, hk2, h1, del])
  | (refine CallP.fE (hnx) (by first | rfl | fail) (by first | simp [hne, hk2, h1, del] <;> rfl | fail) ?_; (try simp [hne, hk2, h1, del]))
  | (refine CallP.ok1 (hc1 _ _ (by first | omega | simp <;> omega | fail)) (by first | (simp [hne, hk2, h1, del, zaa, getK, zab, zac]; done) | fail) (by rfl) (by rfl) ?_; (try simp [hne, hk2, h1, del]))
  | (refine CallP.zeB (hc2 _ _ (by first | omega | simp <;> omega | fail)) (by first | (simp [hne, hk2, h1, del, zaa, getK, zab, zac]; done) | fail) (by rfl) (by first | assumption | (simp; done) | fail) (by rfl) (by simp) ?_; rintro ob' ⟨q', rfl⟩; refine ⟨_, Wk.refl _, ?_⟩)
  | fail)
   (refine hpan _ _ ⟨{ n := _, env := [], obs := [(i, pOb l q')], next := nx }, (Wk.cut rfl (by simp [hn]) (by simp [wkO, zaa, getK, zab, zac, Ob.under, D.under, zad, zae, hi, hne, zab, zac, zaa, getK]) (by simp [wkU, zal, zaa, getK, D.under, hi, hne, zab, zac, zaa, getK]) (by simp [wkE, zal, zaa, getK, hi, hne, zab, zac, zaa, getK])), by simp [hn], ?_⟩; try simp)
   exact PPost.zaD (by simp [PR.bind, *])
 ·simp only [hk2, if_false]
  (refine RetX.of_bodyW Tryz.func201 rfl (by simp) fun Γ hn hpan => ?_); simp only [entry, ziC, ziN, maC, maN, oA, Tryz.ntmps201]
  repeat' (first
  | ((first | refine zag ?_ | refine zak ?_ | refine zah ?_ | fail); simp [hne, hk2, del])
  | (refine CallP.fE (hnx) (by first | rfl | fail) (by first | simp [hne, hk2, del] <;> rfl | fail) ?_; (try simp [hne, hk2, del]))
  | (refine CallP.zeB (hc2 _ _ (by first | omega | simp <;> omega | fail)) (by first | (simp [hne, hk2, del, zaa, getK, zab, zac]; done) | fail) (by rfl) (by first | assumption | (simp; done) | fail) (by rfl) (by simp) ?_; rintro ob' ⟨q', rfl⟩; refine ⟨_, Wk.refl _, ?_⟩)
  | fail)
  (refine hpan _ _ ⟨{ n := _, env := [], obs := [(i, pOb l q')], next := nx }, (Wk.cut rfl (by simp [hn]) (by simp [wkO, zaa, getK, zab, zac, Ob.under, D.under, zad, zae, hi, hne, zab, zac, zaa, getK]) (by simp [wkU, zal, zaa, getK, D.under, hi, hne, zab, zac, zaa, getK]) (by simp [wkE, zal, zaa, getK, hi, hne, zab, zac, zaa, getK])), by simp [hn], ?_⟩; try simp)
  exact PPost.zaD (by simp [PR.bind, *])
theorem znk {l : List Tok} (hl : TokOK l) {p q : Nat} {a b n : Int} (h : zrs l p a b = .ok n q) : p ≤ q ∧ q < l.length := by
 unfold zrs at h
 split at h
 ·cases h
 ·rename_i t ht
  split at h
  ·rename_i hk2
   split at h
   ·cases h
    exact ⟨by omega, hl.fin p t ht (by omega)⟩
   ·cases h
  ·cases h
theorem zdO (l : List Tok) (p : Nat) (w : List UInt8) (a b : Int) (ws : List (List UInt8)) (i nx : Nat) (hi : i < nx) (hp : p < l.length) (hl : TokOK l) (hw : ws.length ≤ 100) :
  RetX Tryz.prog 125 [.ptr i 0, .u (.str w), ziX a, ziX b, .u (.sl (ws.map fun w => [.str w]))] [(i, pOb l p)] nx (PPost l i nx ziX (zd3 l p w a b ws)) := by
 have hne := zaU hi
 have hh1 := fun nx' (h : nx ≤ nx') => zbo l p w i nx' (by omega) hp hl.len
 rw [zd3]
 cases hb : isB l p w with
 | false =>
  simp only [hb, Bool.false_eq_true, if_false] at hh1 ⊢
  (refine RetX.of_bodyW Tryz.func125 rfl (by simp) fun Γ hn hpan => ?_); simp only [entry, ziC, ziN, maC, maN, oA, Tryz.ntmps125]
  repeat' (first
  | ((first | refine zag ?_ | refine zak ?_ | refine zah ?_ | refine zai ?_ | fail); simp [hne, del])
  | (refine zau ?_; simp only [zao])
  | (refine CallP.ok1 (hh1 _ (by first | omega | simp <;> omega | fail)) (by first | (simp [hne, del, zaa, getK, zab, zac]; done) | fail) (by rfl) (by rfl) ?_; (try simp [hne, del]))
  | fail)
  (refine EndW.here ?_; (first | (refine EndOK.fin (.inr rfl) ?_) | (refine EndOK.fin (.inl rfl) ?_)); simp [zaI, zaf, Tryz.results125, hne, hi]; refine FinOK.cut [(i, pOb l p)] (nx) (by simp [zaa, getK, zab, zac, Ob.under, D.under, zad, zae, hne, hi] <;> omega) (by simp [D.under]) (by simp [hn]) ?_; try simp)
  exact PPost.zcE rfl rfl rfl
 | true =>
  have hp2 := zbm hl hb
  simp only [hb, if_true] at hh1 ⊢
  have hn1 := fun nx' (h : nx ≤ nx') => zl5 l (p + 1) a b i nx' (by omega) hp2 hl
  cases hr0 : zrs l (p + 1) a b with
  | stop pos e =>
   simp only [hr0] at hn1
   (refine RetX.of_bodyW Tryz.func125 rfl (by simp) fun Γ hn hpan => ?_); simp only [entry, ziC, ziN, maC, maN, oA, Tryz.ntmps125]
   repeat' (first
  | ((first | refine zag ?_ | refine zak ?_ | refine zah ?_ | refine zai ?_ | fail); simp [hne, del])
  | (refine zar ?_; simp only [zao])
  | (refine CallP.ok1 (hh1 _ (by first | omega | simp <;> omega | fail)) (by first | (simp [hne, del, zaa, getK, zab, zac]; done) | fail) (by rfl) (by rfl) ?_; (try simp [hne, del]))
  | (refine CallP.zeB (hn1 _ (by first | omega | simp <;> omega | fail)) (by first | (simp [hne, del, zaa, getK, zab, zac]; done) | fail) (by rfl) (by first | assumption | (simp; done) | fail) (by rfl) (by simp) ?_; rintro ob' ⟨q', rfl⟩; refine ⟨_, Wk.refl _, ?_⟩)
  | fail)
   (refine hpan _ _ ⟨{ n := _, env := [], obs := [(i, pOb l q')], next := nx }, (Wk.cut rfl (by simp [hn]) (by simp [wkO, zaa, getK, zab, zac, Ob.under, D.under, zad, zae, hi, hne, zab, zac, zaa, getK]) (by simp [wkU, zal, zaa, getK, D.under, hi, hne, zab, zac, zaa, getK]) (by simp [wkE, zal, zaa, getK, hi, hne, zab, zac, zaa, getK])), by simp [hn], ?_⟩; try simp)
   exact PPost.zaD (by simp [PR.bind, *])
  | ok n q0 =>
   simp only [hr0] at hn1
   obtain ⟨g0a, g0b⟩ := znk hl hr0
   have hw1 := fun nx' (h : nx ≤ nx') => ziw l q0 ws i nx' (by omega) g0b hl hw
   cases hr1 : zbV l q0 ws with
   | stop pos e =>
    simp only [hr1] at hw1
    (refine RetX.of_bodyW Tryz.func125 rfl (by simp) fun Γ hn hpan => ?_); simp only [entry, ziC, ziN, maC, maN, oA, Tryz.ntmps125]
    repeat' (first
  | ((first | refine zag ?_ | refine zak ?_ | refine zah ?_ | refine zai ?_ | fail); simp [hne, del])
  | (refine zar ?_; simp only [zao])
  | (refine CallP.ok1 (hh1 _ (by first | omega | simp <;> omega | fail)) (by first | (simp [hne, del, zaa, getK, zab, zac]; done) | fail) (by rfl) (by rfl) ?_; (try simp [hne, del]))
  | (refine CallP.ok1 (hn1 _ (by first | omega | simp <;> omega | fail)) (by first | (simp [hne, del, zaa, getK, zab, zac]; done) | fail) (by rfl) (by rfl) ?_; (try simp [hne, del]))
  | (refine CallP.zeB (hw1 _ (by first | omega | simp <;> omega | fail)) (by first | (simp [hne, del, zaa, getK, zab, zac]; done) | fail) (by rfl) (by first | assumption | (simp; done) | fail) (by rfl) (by simp) ?_; rintro ob' ⟨q', rfl⟩; refine ⟨_, Wk.refl _, ?_⟩)
  | fail)
    (refine hpan _ _ ⟨{ n := _, env := [], obs := [(i, pOb l q')], next := nx }, (Wk.cut rfl (by simp [hn]) (by simp [wkO, zaa, getK, zab, zac, Ob.under, D.under, zad, zae, hi, hne, zab, zac, zaa, getK]) (by simp [wkU, zal, zaa, getK, D.under, hi, hne, zab, zac, zaa, getK]) (by simp [wkE, zal, zaa, getK, hi, hne, zab, zac, zaa, getK])), by simp [hn], ?_⟩; try simp)
    exact PPost.zaD (by simp [PR.bind, *])
   | ok u q =>
    simp only [hr1] at hw1
    (refine RetX.of_bodyW Tryz.func125 rfl (by simp) fun Γ hn hpan => ?_); simp only [entry, ziC, ziN, maC, maN, oA, Tryz.ntmps125]
    repeat' (first
  | ((first | refine zag ?_ | refine zak ?_ | refine zah ?_ | refine zai ?_ | fail); simp [hne, del])
  | ((first | refine zau ?_ | refine zar ?_ | fail); simp only [zao])
  | (refine CallP.ok1 (hh1 _ (by first | omega | simp <;> omega | fail)) (by first | (simp [hne, del, zaa, getK, zab, zac]; done) | fail) (by rfl) (by rfl) ?_; (try simp [hne, del]))
  | (refine CallP.ok1 (hn1 _ (by first | omega | simp <;> omega | fail)) (by first | (simp [hne, del, zaa, getK, zab, zac]; done) | fail) (by rfl) (by rfl) ?_; (try simp [hne, del]))
  | (refine CallP.ok1 (hw1 _ (by first | omega | simp <;> omega | fail)) (by first | (simp [hne, del, zaa, getK, zab, zac]; done) | fail) (by rfl) (by rfl) ?_; (try simp [hne, del]))
  | fail)
    (refine EndW.here ?_; (first | (refine EndOK.fin (.inr rfl) ?_) | (refine EndOK.fin (.inl rfl) ?_)); simp [zaI, zaf, Tryz.results125, hne, hi]; refine FinOK.cut [(i, pOb l q)] (nx) (by simp [zaa, getK, zab, zac, Ob.under, D.under, zad, zae, hne, hi] <;> omega) (by simp [D.under]) (by simp [hn]) ?_; try simp)
    exact PPost.zcE (by simp [PR.bind, *]) rfl rfl
theorem zdP {l : List Tok} (hl : TokOK l) {p q : Nat} {w : List UInt8} {a b n : Int} {ws : List (List UInt8)} (h : zd3 l p w a b ws = .ok n q) (hp : p < l.length) : p ≤ q ∧ q < l.length := by
 unfold zd3 at h
 split at h
 ·obtain ⟨m, r, h1, h⟩ := PR.zaH h
  have g1 := znk hl h1
  obtain ⟨m2, r2, h2, h⟩ := PR.zaH h
  have g2 := zaW hl _ h2 g1.2
  cases h
  exact ⟨by omega, g2.2⟩
 ·cases h; exact ⟨by omega, hp⟩
theorem zgT (l : List Tok) (p : Nat) (i nx : Nat) (hi : i < nx) (hp : p < l.length) (hl : TokOK l) (hl2 : l.length ≤ 2001) :
  RetX Tryz.prog 130 [.ptr i 0] [(i, pOb l p)] nx (PPost l i nx zeE (zex l p)) := by
 have hne := zaU hi
 have hll := hl.len
 rw [zex]
 have hE := fun nx' (h : nx ≤ nx') => (znd hl (4 * l.length + 3)).1 p 0 i nx' (by omega) hp (by omega) (by omega) (by omega)
 cases hr : zez l (4 * l.length + 3) p 0 with
 | stop pos e =>
  simp only [hr] at hE
  (refine RetX.of_bodyW Tryz.func130 rfl (by simp) fun Γ hn hpan => ?_); simp only [entry, ziC, ziN, maC, maN, oA, Tryz.ntmps130]
  repeat' (first
  | ((first | refine zag ?_ | refine zak ?_ | refine zah ?_ | fail); simp [hne, del])
  | (refine CallP.zeB (hE _ (by first | omega | simp <;> omega | fail)) (by first | (simp [hne, del, zaa, getK, zab, zac]; done) | fail) (by rfl) (by first | assumption | (simp; done) | fail) (by rfl) (by simp) ?_; rintro ob' ⟨q', rfl⟩; refine ⟨_, Wk.refl _, ?_⟩)
  | fail)
  (refine hpan _ _ ⟨{ n := _, env := [], obs := [(i, pOb l q')], next := nx }, (Wk.cut rfl (by simp [hn]) (by simp [wkO, zaa, getK, zab, zac, Ob.under, D.under, zad, zae, hi, hne, zab, zac, zaa, getK]) (by simp [wkU, zal, zaa, getK, D.under, hi, hne, zab, zac, zaa, getK]) (by simp [wkE, zal, zaa, getK, hi, hne, zab, zac, zaa, getK])), by simp [hn], ?_⟩; try simp)
  exact PPost.zaD (by simp [PR.bind, *])
 | ok y q =>
  have hEx := fun nx' h => zdp (hE nx' h) hr
  obtain ⟨g0a, g0b⟩ := (zco hl _).1 _ _ _ _ hr hp
  have hlev := (zjJ (l := l) _).1 _ _ _ _ hr
  have hlev2 : y.lev ≤ 1000000000 := by
   have h1 : ((4 * l.length + 3 : Nat) : Int) * ((4 * l.length + 3 : Nat) : Int) ≤ 8007 * 8007 := Int.mul_le_mul (by omega) (by omega) (by omega) (by omega)
   omega
  have hlv := zl9 (SizeOf.sizeOf y) y (Nat.le_refl _) hlev2
  rw [Exp.row_eq] at hlv
  obtain ⟨t, ht⟩ : ∃ t, l[q]? = some t := ⟨_, List.getElem?_eq_getElem g0b⟩
  have his := zdQ l q [59] g0b hl.len
  have hpa : zdD l q = t.pos := by unfold zdD; rw [ht]
  have hc1 := fun e nx' (h : nx ≤ nx') => zfd l q e i nx' (by omega)
  have hc2 := fun e nx' (h : nx ≤ nx') => zdK l q t e i nx' (by omega) ht hl.len
  rw [PR.bind_ok, hpa]
  cases hb : isB l q [59] with
  | false =>
   simp only [hb, Bool.false_eq_true, if_false] at his ⊢
   (refine RetX.of_bodyW Tryz.func130 rfl (by simp) fun Γ hn hpan => ?_); simp only [entry, ziC, ziN, maC, maN, oA, Tryz.ntmps130]
   repeat' (first
  | ((first | refine zag ?_ | refine zak ?_ | refine zah ?_ | fail); simp [hne, del])
  | (refine CallP.fE (his) (by first | rfl | fail) (by first | simp [hne, del] <;> rfl | fail) ?_; (try simp [hne, del]))
  | (refine CallP.ok1 (hEx _ (by first | omega | simp <;> omega | fail)) (by first | (simp [hne, del, zaa, getK, zab, zac]; done) | fail) (by rfl) (by rfl) ?_; (try simp [hne, del]))
  | (refine CallP.zeB (hc2 _ _ (by first | omega | simp <;> omega | fail)) (by first | (simp [hne, del, zaa, getK, zab, zac]; done) | fail) (by rfl) (by first | assumption | (simp; done) | fail) (by rfl) (by simp) ?_; rintro ob' ⟨q', rfl⟩; refine ⟨_, Wk.refl _, ?_⟩)
  | fail)
   (refine hpan _ _ ⟨{ n := _, env := [], obs := [(i, pOb l q')], next := nx }, (Wk.cut rfl (by simp [hn]) (by simp [wkO, zaa, getK, zab, zac, Ob.under, D.under, zad, zae, hi, hne, zab, zac, zaa, getK]) (by simp [wkU, zal, zaa, getK, D.under, hi, hne, zab, zac, zaa, getK]) (by simp [wkE, zal, zaa, getK, hi, hne, zab, zac, zaa, getK])), by simp [hn], ?_⟩; try simp)
   exact PPost.zaD (by simp [PR.bind, *])
  | true =>
   have hq2 := zbm hl hb
   simp only [hb, if_true] at his ⊢
   by_cases hv : y.lev ≤ 12
   ·simp only [hv, if_true]
    (refine RetX.of_bodyW Tryz.func130 rfl (by simp) fun Γ hn hpan => ?_); simp only [entry, ziC, ziN, maC, maN, oA, Tryz.ntmps130]
    repeat' (first
  | ((first | refine zag ?_ | refine zak ?_ | fail); simp [hne, del, hv])
  | (refine ⟨by omega, ?_⟩)
  | (refine zah ?_; simp [hne, del, hv])
  | (refine zau ?_; simp only [zao])
  | (refine CallP.fE (his) (by first | rfl | fail) (by first | simp [hne, del, hv] <;> rfl | fail) ?_; (try simp [hne, del, hv]))
  | (refine CallP.fE (hlv) (by first | rfl | fail) (by first | simp [hne, del, hv] <;> rfl | fail) ?_; (try simp [hne, del, hv]))
  | (refine CallP.ok1 (hEx _ (by first | omega | simp <;> omega | fail)) (by first | (simp [hne, del, hv, zaa, getK, zab, zac]; done) | fail) (by rfl) (by rfl) ?_; (try simp [hne, del, hv]))
  | (refine CallP.ok1 (hc1 _ _ (by first | omega | simp <;> omega | fail)) (by first | (simp [hne, del, hv, zaa, getK, zab, zac]; done) | fail) (by rfl) (by rfl) ?_; (try simp [hne, del, hv]))
  | fail)
    refine EndW.norm ?_
    simp [St.norm, zbc, zbR, zb6, zb7, hne, nAA]
    (refine EndW.here ?_; (first | (refine EndOK.fin (.inr rfl) ?_) | (refine EndOK.fin (.inl rfl) ?_)); simp [zaI, zaf, Tryz.results130, hne, hi]; refine FinOK.cut [(i, pOb l (q + 1))] (nx) (by simp [zaa, getK, zab, zac, Ob.under, D.under, zad, zae, hne, hi] <;> omega) (by simp [D.under]) (by simp [hn]) ?_; try simp)
    exact PPost.zcE rfl (by simp [Exp.row_eq]) rfl
   ·simp only [hv, if_false]
    (refine RetX.of_bodyW Tryz.func130 rfl (by simp) fun Γ hn hpan => ?_); simp only [entry, ziC, ziN, maC, maN, oA, Tryz.ntmps130]
    repeat' (first
  | ((first | refine zag ?_ | refine zak ?_ | refine zah ?_ | fail); simp [hne, del, hv])
  | (refine CallP.fE (his) (by first | rfl | fail) (by first | simp [hne, del, hv] <;> rfl | fail) ?_; (try simp [hne, del, hv]))
  | (refine CallP.fE (hlv) (by first | rfl | fail) (by first | simp [hne, del, hv] <;> rfl | fail) ?_; (try simp [hne, del, hv]))
  | (refine CallP.ok1 (hEx _ (by first | omega | simp <;> omega | fail)) (by first | (simp [hne, del, hv, zaa, getK, zab, zac]; done) | fail) (by rfl) (by rfl) ?_; (try simp [hne, del, hv]))
  | (refine CallP.ok1 (hc1 _ _ (by first | omega | simp <;> omega | fail)) (by first | (simp [hne, del, hv, zaa, getK, zab, zac]; done) | fail) (by rfl) (by rfl) ?_; (try simp [hne, del, hv]))
  | (refine CallP.zeB (hc2 _ _ (by first | omega | simp <;> omega | fail)) (by first | (simp [hne, del, hv, zaa, getK, zab, zac]; done) | fail) (by rfl) (by first | assumption | (simp; done) | fail) (by rfl) (by simp) ?_; rintro ob' ⟨q', rfl⟩; refine ⟨_, Wk.refl _, ?_⟩)
  | fail)
    (refine hpan _ _ ⟨{ n := _, env := [], obs := [(i, pOb l q')], next := nx }, (Wk.cut rfl (by simp [hn]) (by simp [wkO, zaa, getK, zab, zac, Ob.under, D.under, zad, zae, hi, hne, zab, zac, zaa, getK]) (by simp [wkU, zal, zaa, getK, D.under, hi, hne, zab, zac, zaa, getK]) (by simp [wkE, zal, zaa, getK, hi, hne, zab, zac, zaa, getK])), by simp [hn], ?_⟩; try simp)
    exact PPost.zaD (by simp [PR.bind, *])
theorem zgV {l : List Tok} (hl : TokOK l) {p q : Nat} {e : Exp} (h : zex l p = .ok e q) (hp : p < l.length) : p ≤ q ∧ q < l.length := by
 unfold zex at h
 obtain ⟨y, r, h1, h⟩ := PR.zaH h
 have g1 := (zco hl _).1 _ _ _ _ h1 hp
 split at h
 ·rename_i hb
  split at h
  ·cases h
   exact ⟨by omega, zbm hl hb⟩
  ·cases h
 ·cases h
theorem zkJ : Fun Tryz.prog 72 [] (· = .u (.agg nothingE.row)) := by
 simp only [nothingE, Exp.row, List.map_nil]
 (refine Fun.of_bodyW Tryz.func72 rfl (by simp) fun Γ hn => ?_); simp only [entry, ziC, ziN, maC, maN, oA, Tryz.ntmps72]
 repeat' (first
  | ((first | refine zag ?_ | refine zak ?_ | refine zah ?_ | fail); simp)
  | (refine zau ?_; simp only [zao])
  | fail)
 refine EndW.norm ?_
 simp [St.norm, zbc, zbR, zb6, zb7]
 refine EndW.here ?_
 (refine EndOK.val (.inr rfl) ?_; simp [zaI, zaf, zaw, Tryz.results72])
theorem zfb (l : List Tok) (p : Nat) (w : List UInt8) (i nx : Nat) (hi : i < nx) (hp : p < l.length) (hl : TokOK l) (hl2 : l.length ≤ 2001) :
  RetX Tryz.prog 131 [.ptr i 0, .u (.str w)] [(i, pOb l p)] nx (PPost l i nx zeE (zdZ l p w)) := by
 have hne := zaU hi
 have hh1 := fun nx' (h : nx ≤ nx') => zbo l p w i nx' (by omega) hp hl.len
 rw [zdZ]
 cases hb : isB l p w with
 | false =>
  have h0 := zkJ
  simp only [nothingE, Exp.row, List.map_nil] at h0
  simp only [hb, Bool.false_eq_true, if_false] at hh1 ⊢
  (refine RetX.of_bodyW Tryz.func131 rfl (by simp) fun Γ hn hpan => ?_); simp only [entry, ziC, ziN, maC, maN, oA, Tryz.ntmps131]
  repeat' (first
  | ((first | refine zag ?_ | refine zak ?_ | refine zah ?_ | refine zai ?_ | fail); simp [hne, del])
  | ((first | refine zau ?_ | refine zar ?_ | fail); simp only [zao])
  | (refine CallP.fE (h0) (by first | rfl | fail) (by first | simp [hne, del] <;> rfl | fail) ?_; (try simp [hne, del]))
  | (refine CallP.ok1 (hh1 _ (by first | omega | simp <;> omega | fail)) (by first | (simp [hne, del, zaa, getK, zab, zac]; done) | fail) (by rfl) (by rfl) ?_; (try simp [hne, del]))
  | fail)
  refine EndW.norm ?_
  simp [St.norm, zbc, zbR, zb6, zb7, hne, nAA]
  (refine EndW.here ?_; (first | (refine EndOK.fin (.inr rfl) ?_) | (refine EndOK.fin (.inl rfl) ?_)); simp [zaI, zaf, Tryz.results131, hne, hi]; refine FinOK.cut [(i, pOb l p)] (nx) (by simp [zaa, getK, zab, zac, Ob.under, D.under, zad, zae, hne, hi] <;> omega) (by simp [D.under]) (by simp [hn]) ?_; try simp)
  exact PPost.zcE rfl (by simp [nothingE, Exp.row]) rfl
 | true =>
  have hp2 := zbm hl hb
  simp only [hb, if_true] at hh1 ⊢
  have hn1 := fun nx' (h : nx ≤ nx') => zgT l (p + 1) i nx' (by omega) hp2 hl hl2
  cases hr0 : zex l (p + 1) with
  | stop pos e =>
   simp only [hr0] at hn1
   (refine RetX.of_bodyW Tryz.func131 rfl (by simp) fun Γ hn hpan => ?_); simp only [entry, ziC, ziN, maC, maN, oA, Tryz.ntmps131]
   repeat' (first
  | ((first | refine zag ?_ | refine zak ?_ | refine zah ?_ | refine zai ?_ | fail); simp [hne, del])
  | (refine CallP.ok1 (hh1 _ (by first | omega | simp <;> omega | fail)) (by first | (simp [hne, del, zaa, getK, zab, zac]; done) | fail) (by rfl) (by rfl) ?_; (try simp [hne, del]))
  | (refine CallP.zeB (hn1 _ (by first | omega | simp <;> omega | fail)) (by first | (simp [hne, del, zaa, getK, zab, zac]; done) | fail) (by rfl) (by first | assumption | (simp; done) | fail) (by rfl) (by simp) ?_; rintro ob' ⟨q', rfl⟩; refine ⟨_, Wk.refl _, ?_⟩)
  | fail)
   (refine hpan _ _ ⟨{ n := _, env := [], obs := [(i, pOb l q')], next := nx }, (Wk.cut rfl (by simp [hn]) (by simp [wkO, zaa, getK, zab, zac, Ob.under, D.under, zad, zae, hi, hne, zab, zac, zaa, getK]) (by simp [wkU, zal, zaa, getK, D.under, hi, hne, zab, zac, zaa, getK]) (by simp [wkE, zal, zaa, getK, hi, hne, zab, zac, zaa, getK])), by simp [hn], ?_⟩; try simp)
   exact PPost.zaD (by simp [PR.bind, *])
  | ok n q0 =>
   have hn1 := fun nx' h => zdp (hn1 nx' h) hr0
   (refine RetX.of_bodyW Tryz.func131 rfl (by simp) fun Γ hn hpan => ?_); simp only [entry, ziC, ziN, maC, maN, oA, Tryz.ntmps131]
   repeat' (first
  | ((first | refine zag ?_ | refine zak ?_ | refine zah ?_ | refine zai ?_ | fail); simp [hne, del])
  | (refine zau ?_; simp only [zao])
  | (refine CallP.ok1 (hh1 _ (by first | omega | simp <;> omega | fail)) (by first | (simp [hne, del, zaa, getK, zab, zac]; done) | fail) (by rfl) (by rfl) ?_; (try simp [hne, del]))
  | (refine CallP.ok1 (hn1 _ (by first | omega | simp <;> omega | fail)) (by first | (simp [hne, del, zaa, getK, zab, zac]; done) | fail) (by rfl) (by rfl) ?_; (try simp [hne, del]))
  | fail)
   refine EndW.norm ?_
   simp [St.norm, zbc, zbR, zb6, zb7, hne, nAA]
   (refine EndW.here ?_; (first | (refine EndOK.fin (.inr rfl) ?_) | (refine EndOK.fin (.inl rfl) ?_)); simp [zaI, zaf, Tryz.results131, hne, hi]; refine FinOK.cut [(i, pOb l q0)] (nx) (by simp [zaa, getK, zab, zac, Ob.under, D.under, zad, zae, hne, hi] <;> omega) (by simp [D.under]) (by simp [hn]) ?_; try simp)
   exact PPost.zcE rfl (by simp [Exp.row_eq]) rfl
theorem zfc {l : List Tok} (hl : TokOK l) {p q : Nat} {w : List UInt8} {e : Exp} (h : zdZ l p w = .ok e q) (hp : p < l.length) : p ≤ q ∧ q < l.length := by
 unfold zdZ at h
 split at h
 ·rename_i hb
  have := zgV hl h (zbm hl hb)
  exact ⟨by omega, this.2⟩
 ·cases h; exact ⟨by omega, hp⟩
/-- A call of one of the parser's functions, both ways. -/
theorem _root_.Go.VL.CallP.pp {P : Program} {Γ : Ctx} {s : St} {k : St → Prop} {dst : Option Tmp} {fop : Operand} {args : List Operand} {f caps} {ds : List D} {α : Type} {l : List Tok} {i : Nat} {ob : Ob} {val : α → D} {r : PR α}
  (hret : RetX P f ds [(i, ob)] s.next (PPost l i s.next val r)) (hj : getK s.obs i = some ob) (hf : zaz (opd s fop) = some (f, caps)) (hc : zaj P f = true) (hds : args.map (opd s) ++ caps = ds) (hp : zaG dst s)
  (hk : ∀ a q, r = .ok a q → k (({ s with obs := del s.obs i ++ [(i, pOb l q)], next := s.next } : St).put dst (val a)))
  (hx : ∀ pos e q, r = .stop pos e → ∃ s2, Wk Γ { s with obs := del s.obs i ++ [(i, pOb l q)], next := s.next } s2 ∧ Γ.pan (chP pos e) s2) : CallP P Γ fop args dst s k :=
 CallP.x1 hret hj hf hc hds hp (fun d o1 nx' _ h => by
  cases r with
  | ok a q => obtain ⟨h1, h2, h3⟩ := h; cases h1; subst h2; subst h3; exact hk a q rfl
  | stop pos e => obtain ⟨h1, _⟩ := h; cases h1) (fun ch o1 nx' _ h => by
  cases r with
  | ok a q => obtain ⟨h1, _⟩ := h; cases h1
  | stop pos e => obtain ⟨h1, ⟨ob', ⟨q, rfl⟩, h2⟩, h3⟩ := h; cases h1; subst h2; subst h3; exact hx pos e q rfl)
abbrev kbD (x : Int × Bool) : D := .tup [.u (.int .i64 x.1), .u (.bool x.2)]
theorem zpe (l : List Tok) (p : Nat) (i nx : Nat) (hi : i < nx) (hp : p < l.length) (hl : TokOK l) :
  RetX Tryz.prog 122 [.ptr i 0] [(i, pOb l p)] nx (PPost l i nx kbD (zkQ l p)) := by
 have hne := zaU hi
 have hll := hl.len
 generalize hR : zkQ l p = R
 rw [zkQ] at hR
 (refine RetX.of_bodyW Tryz.func122 rfl (by simp) fun Γ hn hpan => ?_); simp only [entry, ziC, ziN, maC, maN, oA, Tryz.ntmps122]
 repeat' (first
  | ((first | refine zag ?_ | refine zak ?_ | refine zah ?_ | fail); simp [hne])
  | (refine zaF (by first | rfl | fail) ?_; simp [hne, frzN, frz1, zaC, zaB, St.frz, St.frzS, frzS, fv, zaQ, za2, za3, frzObS, zay, zas, del, frz, za7])
  | fail)
 (refine CallP.pp (zeD hl [99, 105, 114, 99, 108, 101] (q := p) (i := i) (by first | omega | simp <;> omega | fail) hp) (by first | (simp [hi, hne, nAA, zaa, getK, zab, zac]; done) | fail) (by rfl) (by first | assumption | (simp; done) | fail) (by rfl) (by simp) (fun v1 q1 h1 => ?_) (fun pos e q' h1 => ⟨_, Wk.refl _, ?_⟩); rotate_left 1; (focus (rw [h1, PR.zaL] at hR; (refine hpan _ _ ⟨{ n := _, env := [], obs := [(i, pOb l q')], next := nx }, (Wk.cut rfl (by simp [hn]) (by simp [wkO, zaa, getK, zab, zac, Ob.under, D.under, zad, zae, hi, hne, nAA, zab, zac, zaa, getK]) (by simp [wkU, zal, zaa, getK, D.under, hi, hne, nAA, zab, zac, zaa, getK]) (by simp [wkE, zal, zaa, getK, hi, hne, nAA, zab, zac, zaa, getK])), by simp [hn], ?_⟩; try simp); exact PPost.zaD hR.symm)); rw [h1, PR.bind_ok] at hR; (try simp [hi, hne, nAA]))
 obtain ⟨_, g1⟩ := zaW hl _ h1 hp
 have hh1 := fun nx' (h : nx ≤ nx') => zbo l q1 [114, 111, 116, 97, 116, 105, 110, 103] i nx' (by omega) g1 hl.len
 have hh2 := fun nx' (h : nx ≤ nx') => zbo l q1 [115, 97, 118, 105, 110, 103] i nx' (by omega) g1 hl.len
 by_cases c1 : isB l q1 [114, 111, 116, 97, 116, 105, 110, 103] = true
 ·have g2 := zbm hl c1
  rw [if_pos c1] at hR
  simp only [c1, if_true] at hh1
  repeat' (first
  | ((first | refine zag ?_ | refine zak ?_ | refine zah ?_ | refine zai ?_ | fail); simp [hne, del, nAA])
  | (refine CallP.ok1 (hh1 _ (by first | omega | simp <;> omega | fail)) (by first | (simp [hne, del, nAA, zaa, getK, zab, zac]; done) | fail) (by rfl) (by rfl) ?_; (try simp [hne, del, nAA]))
  | (refine zaF (by first | rfl | fail) ?_; simp [hne, del, nAA, frzN, frz1, zaC, zaB, St.frz, St.frzS, frzS, fv, zaQ, za2, za3, frzObS, zay, zas, del, frz, za7])
  | fail)
  (refine CallP.pp (zeD hl [59] (q := q1 + 1) (i := i) (by first | omega | simp <;> omega | fail) g2) (by first | (simp [hi, hne, nAA, zaa, getK, zab, zac]; done) | fail) (by rfl) (by first | assumption | (simp; done) | fail) (by rfl) (by simp) (fun v2 q2 h2 => ?_) (fun pos e q' h2 => ⟨_, Wk.refl _, ?_⟩); rotate_left 1; (focus (rw [h2, PR.zaL] at hR; (refine hpan _ _ ⟨{ n := _, env := [], obs := [(i, pOb l q')], next := nx }, (Wk.cut rfl (by simp [hn]) (by simp [wkO, zaa, getK, zab, zac, Ob.under, D.under, zad, zae, hi, hne, nAA, zab, zac, zaa, getK]) (by simp [wkU, zal, zaa, getK, D.under, hi, hne, nAA, zab, zac, zaa, getK]) (by simp [wkE, zal, zaa, getK, hi, hne, nAA, zab, zac, zaa, getK])), by simp [hn], ?_⟩; try simp); exact PPost.zaD hR.symm)); rw [h2, PR.bind_ok] at hR; (try simp [hi, hne, nAA]))
  repeat' (first
  | ((first | refine zag ?_ | refine zak ?_ | refine zah ?_ | fail); simp [hne, del, nAA])
  | (refine zau ?_; simp only [zao])
  | fail)
  (refine EndW.here ?_; (first | (refine EndOK.fin (.inr rfl) ?_) | (refine EndOK.fin (.inl rfl) ?_)); simp [zaI, zaf, Tryz.results122, hne, hi]; refine FinOK.cut [(i, pOb l q2)] (nx) (by simp [zaa, getK, zab, zac, Ob.under, D.under, zad, zae, hne, hi] <;> omega) (by simp [D.under]) (by simp [hn]) ?_; try simp)
  exact PPost.zcE hR.symm rfl rfl
 ·rw [if_neg c1] at hR
  simp only [c1, Bool.false_eq_true, if_false] at hh1
  by_cases c2 : isB l q1 [115, 97, 118, 105, 110, 103] = true
  ·have g2 := zbm hl c2
   rw [if_pos c2] at hR
   simp only [c2, if_true] at hh2
   repeat' (first
  | ((first | refine zag ?_ | refine zak ?_ | refine zah ?_ | refine zai ?_ | fail); simp [hne, del, nAA])
  | (refine CallP.ok1 (hh1 _ (by first | omega | simp <;> omega | fail)) (by first | (simp [hne, del, nAA, zaa, getK, zab, zac]; done) | fail) (by rfl) (by rfl) ?_; (try simp [hne, del, nAA]))
  | (refine CallP.ok1 (hh2 _ (by first | omega | simp <;> omega | fail)) (by first | (simp [hne, del, nAA, zaa, getK, zab, zac]; done) | fail) (by rfl) (by rfl) ?_; (try simp [hne, del, nAA]))
  | (refine zaF (by first | rfl | fail) ?_; simp [hne, del, nAA, frzN, frz1, zaC, zaB, St.frz, St.frzS, frzS, fv, zaQ, za2, za3, frzObS, zay, zas, del, frz, za7])
  | fail)
   (refine CallP.pp (zeD hl [59] (q := q1 + 1) (i := i) (by first | omega | simp <;> omega | fail) g2) (by first | (simp [hi, hne, nAA, zaa, getK, zab, zac]; done) | fail) (by rfl) (by first | assumption | (simp; done) | fail) (by rfl) (by simp) (fun v2 q2 h2 => ?_) (fun pos e q' h2 => ⟨_, Wk.refl _, ?_⟩); rotate_left 1; (focus (rw [h2, PR.zaL] at hR; (refine hpan _ _ ⟨{ n := _, env := [], obs := [(i, pOb l q')], next := nx }, (Wk.cut rfl (by simp [hn]) (by simp [wkO, zaa, getK, zab, zac, Ob.under, D.under, zad, zae, hi, hne, nAA, zab, zac, zaa, getK]) (by simp [wkU, zal, zaa, getK, D.under, hi, hne, nAA, zab, zac, zaa, getK]) (by simp [wkE, zal, zaa, getK, hi, hne, nAA, zab, zac, zaa, getK])), by simp [hn], ?_⟩; try simp); exact PPost.zaD hR.symm)); rw [h2, PR.bind_ok] at hR; (try simp [hi, hne, nAA]))
   repeat' (first
  | ((first | refine zag ?_ | refine zak ?_ | refine zah ?_ | fail); simp [hne, del, nAA])
  | (refine zau ?_; simp only [zao])
  | fail)
   (refine EndW.here ?_; (first | (refine EndOK.fin (.inr rfl) ?_) | (refine EndOK.fin (.inl rfl) ?_)); simp [zaI, zaf, Tryz.results122, hne, hi]; refine FinOK.cut [(i, pOb l q2)] (nx) (by simp [zaa, getK, zab, zac, Ob.under, D.under, zad, zae, hne, hi] <;> omega) (by simp [D.under]) (by simp [hn]) ?_; try simp)
   exact PPost.zcE hR.symm rfl rfl
  ·rw [if_neg c2] at hR
   simp only [c2, Bool.false_eq_true, if_false] at hh2
   repeat' (first
  | ((first | refine zag ?_ | refine zak ?_ | refine zah ?_ | refine zai ?_ | fail); simp [hne, del, nAA])
  | (refine zar ?_; simp only [zao])
  | (refine CallP.ok1 (hh1 _ (by first | omega | simp <;> omega | fail)) (by first | (simp [hne, del, nAA, zaa, getK, zab, zac]; done) | fail) (by rfl) (by rfl) ?_; (try simp [hne, del, nAA]))
  | (refine CallP.ok1 (hh2 _ (by first | omega | simp <;> omega | fail)) (by first | (simp [hne, del, nAA, zaa, getK, zab, zac]; done) | fail) (by rfl) (by rfl) ?_; (try simp [hne, del, nAA]))
  | (refine zaF (by first | rfl | fail) ?_; simp [hne, del, nAA, frzN, frz1, zaC, zaB, St.frz, St.frzS, frzS, fv, zaQ, za2, za3, frzObS, zay, zas, del, frz, za7])
  | fail)
   (refine CallP.pp (zeD hl [98, 105, 100, 100, 105, 110, 103] (q := q1) (i := i) (by first | omega | simp <;> omega | fail) g1) (by first | (simp [hi, hne, nAA, zaa, getK, zab, zac]; done) | fail) (by rfl) (by first | assumption | (simp; done) | fail) (by rfl) (by simp) (fun v2 q2 h2 => ?_) (fun pos e q' h2 => ⟨_, Wk.refl _, ?_⟩); rotate_left 1; (focus (rw [h2, PR.zaL] at hR; (refine hpan _ _ ⟨{ n := _, env := [], obs := [(i, pOb l q')], next := nx }, (Wk.cut rfl (by simp [hn]) (by simp [wkO, zaa, getK, zab, zac, Ob.under, D.under, zad, zae, hi, hne, nAA, zab, zac, zaa, getK]) (by simp [wkU, zal, zaa, getK, D.under, hi, hne, nAA, zab, zac, zaa, getK]) (by simp [wkE, zal, zaa, getK, hi, hne, nAA, zab, zac, zaa, getK])), by simp [hn], ?_⟩; try simp); exact PPost.zaD hR.symm)); rw [h2, PR.bind_ok] at hR; (try simp [hi, hne, nAA]))
   obtain ⟨_, g2⟩ := zaW hl _ h2 g1
   have hh3 := fun nx' (h : nx ≤ nx') => zbo l q2 [115, 101, 97, 108, 101, 100] i nx' (by omega) g2 hl.len
   by_cases c3 : isB l q2 [115, 101, 97, 108, 101, 100] = true
   ·have g3 := zbm hl c3
    rw [if_pos c3] at hR
    simp only [c3, if_true] at hh3
    repeat' (first
  | ((first | refine zag ?_ | refine zak ?_ | refine zah ?_ | fail); simp [hne, del, nAA])
  | (refine CallP.ok1 (hh3 _ (by first | omega | simp <;> omega | fail)) (by first | (simp [hne, del, nAA, zaa, getK, zab, zac]; done) | fail) (by rfl) (by rfl) ?_; (try simp [hne, del, nAA]))
  | (refine zaF (by first | rfl | fail) ?_; simp [hne, del, nAA, frzN, frz1, zaC, zaB, St.frz, St.frzS, frzS, fv, zaQ, za2, za3, frzObS, zay, zas, del, frz, za7])
  | fail)
    (refine CallP.pp (zeD hl [59] (q := q2 + 1) (i := i) (by first | omega | simp <;> omega | fail) g3) (by first | (simp [hi, hne, nAA, zaa, getK, zab, zac]; done) | fail) (by rfl) (by first | assumption | (simp; done) | fail) (by rfl) (by simp) (fun v3 q3 h3 => ?_) (fun pos e q' h3 => ⟨_, Wk.refl _, ?_⟩); rotate_left 1; (focus (rw [h3, PR.zaL] at hR; (refine hpan _ _ ⟨{ n := _, env := [], obs := [(i, pOb l q')], next := nx }, (Wk.cut rfl (by simp [hn]) (by simp [wkO, zaa, getK, zab, zac, Ob.under, D.under, zad, zae, hi, hne, nAA, zab, zac, zaa, getK]) (by simp [wkU, zal, zaa, getK, D.under, hi, hne, nAA, zab, zac, zaa, getK]) (by simp [wkE, zal, zaa, getK, hi, hne, nAA, zab, zac, zaa, getK])), by simp [hn], ?_⟩; try simp); exact PPost.zaD hR.symm)); rw [h3, PR.bind_ok] at hR; (try simp [hi, hne, nAA]))
    repeat' (first
  | ((first | refine zag ?_ | refine zak ?_ | refine zah ?_ | fail); simp [hne, del, nAA])
  | (refine zau ?_; simp only [zao])
  | fail)
    (refine EndW.here ?_; (first | (refine EndOK.fin (.inr rfl) ?_) | (refine EndOK.fin (.inl rfl) ?_)); simp [zaI, zaf, Tryz.results122, hne, hi]; refine FinOK.cut [(i, pOb l q3)] (nx) (by simp [zaa, getK, zab, zac, Ob.under, D.under, zad, zae, hne, hi] <;> omega) (by simp [D.under]) (by simp [hn]) ?_; try simp)
    exact PPost.zcE hR.symm rfl rfl
   ·rw [if_neg c3] at hR
    simp only [c3, Bool.false_eq_true, if_false] at hh3
    repeat' (first
  | ((first | refine zag ?_ | refine zak ?_ | refine zah ?_ | fail); simp [hne, del, nAA])
  | (refine CallP.ok1 (hh3 _ (by first | omega | simp <;> omega | fail)) (by first | (simp [hne, del, nAA, zaa, getK, zab, zac]; done) | fail) (by rfl) (by rfl) ?_; (try simp [hne, del, nAA]))
  | (refine zaF (by first | rfl | fail) ?_; simp [hne, del, nAA, frzN, frz1, zaC, zaB, St.frz, St.frzS, frzS, fv, zaQ, za2, za3, frzObS, zay, zas, del, frz, za7])
  | fail)
    (refine CallP.pp (zeD hl [59] (q := q2) (i := i) (by first | omega | simp <;> omega | fail) g2) (by first | (simp [hi, hne, nAA, zaa, getK, zab, zac]; done) | fail) (by rfl) (by first | assumption | (simp; done) | fail) (by rfl) (by simp) (fun v3 q3 h3 => ?_) (fun pos e q' h3 => ⟨_, Wk.refl _, ?_⟩); rotate_left 1; (focus (rw [h3, PR.zaL] at hR; (refine hpan _ _ ⟨{ n := _, env := [], obs := [(i, pOb l q')], next := nx }, (Wk.cut rfl (by simp [hn]) (by simp [wkO, zaa, getK, zab, zac, Ob.under, D.under, zad, zae, hi, hne, nAA, zab, zac, zaa, getK]) (by simp [wkU, zal, zaa, getK, D.under, hi, hne, nAA, zab, zac, zaa, getK]) (by simp [wkE, zal, zaa, getK, hi, hne, nAA, zab, zac, zaa, getK])), by simp [hn], ?_⟩; try simp); exact PPost.zaD hR.symm)); rw [h3, PR.bind_ok] at hR; (try simp [hi, hne, nAA]))
    repeat' (first
  | ((first | refine zag ?_ | refine zak ?_ | refine zah ?_ | fail); simp [hne, del, nAA])
  | (refine zau ?_; simp only [zao])
  | fail)
    (refine EndW.here ?_; (first | (refine EndOK.fin (.inr rfl) ?_) | (refine EndOK.fin (.inl rfl) ?_)); simp [zaI, zaf, Tryz.results122, hne, hi]; refine FinOK.cut [(i, pOb l q3)] (nx) (by simp [zaa, getK, zab, zac, Ob.under, D.under, zad, zae, hne, hi] <;> omega) (by simp [D.under]) (by simp [hn]) ?_; try simp)
    exact PPost.zcE hR.symm rfl rfl
theorem zpg {l : List Tok} (hl : TokOK l) {p q : Nat} {x : Int × Bool} (h : zkQ l p = .ok x q) (hp : p < l.length) : p ≤ q ∧ q < l.length := by
 unfold zkQ at h
 obtain ⟨_, r1, h1, h⟩ := PR.zaH h
 have g1 := zaW hl _ h1 hp
 split at h
 ·rename_i hb
  obtain ⟨_, r2, h2, h⟩ := PR.zaH h
  have g2 := zaW hl _ h2 (zbm hl hb)
  cases h
  exact ⟨by omega, g2.2⟩
 ·split at h
  ·rename_i hb
   obtain ⟨_, r2, h2, h⟩ := PR.zaH h
   have g2 := zaW hl _ h2 (zbm hl hb)
   cases h
   exact ⟨by omega, g2.2⟩
  ·obtain ⟨_, r2, h2, h⟩ := PR.zaH h
   have g2 := zaW hl _ h2 g1.2
   split at h
   ·rename_i hb
    obtain ⟨_, r3, h3, h⟩ := PR.zaH h
    have g3 := zaW hl _ h3 (zbm hl hb)
    cases h
    exact ⟨by omega, g3.2⟩
   ·obtain ⟨_, r3, h3, h⟩ := PR.zaH h
    have g3 := zaW hl _ h3 g2.2
    cases h
    exact ⟨by omega, g3.2⟩
theorem zl3 : Fun Tryz.prog 74 [] (· = .u (.sl (ordersW.map fun w => [.str w]))) := by
 simp only [ordersW, List.map_cons, List.map_nil]
 (refine Fun.of_bodyW Tryz.func74 rfl (by simp) fun Γ hn => ?_); simp only [entry, ziC, ziN, maC, maN, oA, Tryz.ntmps74]
 repeat' (first
  | ((first | refine zag ?_ | refine zak ?_ | refine zah ?_ | fail); simp [zbI, zbE])
  | (refine zau ?_; simp only [zao])
  | fail)
 (refine EndW.frzN 1 ?_; simp [frzN, frz1, zaC, zaB, St.frz, St.frzS, frzS, fv, zaQ, za2, za3, frzObS, zay, zas, del, frz, za7])
 refine EndW.here ?_
 (refine EndOK.val (.inr rfl) ?_; simp [zaI, zaf, zaw, Tryz.results74])
/-- The first of words that stands at a place is read. -/
def atW (l : List Tok) (q : Nat) (ws : List W8) : Option Nat := ws.findIdx? fun w => isB l q w
theorem zmh (l : List Tok) (q : Nat) (ws : List W8) (i nx : Nat) (hi : i < nx) (hq : q < l.length) (hl : TokOK l) :
  RetX Tryz.prog 202 [.u (.sl (ws.map fun w => [.str w])), .bnd (.func 200) [.ptr i 0]] [(i, pOb l q)] nx
   (fun r o n => r = .val (match atW l q ws with | some j => ziX j | none => ziX (-1)) ∧ o = [(i, pOb l (if (atW l q ws).isSome then q + 1 else q))] ∧ n = nx) := by
 have hne := zaU hi
 generalize hA : atW l q ws = A
 (refine RetX.of_bodyW Tryz.func202 rfl (by simp) fun Γ hn hpan => ?_); simp only [entry, ziC, ziN, maC, maN, oA, Tryz.ntmps202]
 refine zgD (x := 0) rfl fun hll => ?_
 simp at hll
 repeat' (first
  | ((first | refine zag ?_ | refine zak ?_ | refine zah ?_ | refine zaA ?_ | fail); simp)
  | fail)
 refine zcn (α := { j : Nat // j ≤ ws.length ∧ ∀ w ∈ ws.take j, isB l q w = false }) [0, 1, 7] (fun x => [(8, .u (.int .i64 x.1))]) (fun x => [(i, pOb l q)]) nx (fun x => ws.length - x.1) ⟨0, by omega, by simp⟩ ?_ ?_
 ·exact (Wk.cut rfl (by simp [hn, St.lp]) (by simp [wkO, St.lp, zaa, getK, Ob.under, D.under, zad, zae, hi]) (by simp [wkU, St.lp, zal, zaa, getK, D.under, hi]) (by simp [wkE, St.lp, zal, zaa, getK, hi] <;> (try (intros; simp_all; done)) <;> (try (intros; omega)) <;> (try grind)))
 rintro ⟨j, h1, h2⟩
 simp [St.lp, St.only, zal, zaa, getK]
 rcases hx : ws[j]? with _ | w
 ·have hge : ws.length ≤ j := by simpa using hx
  rw [List.take_of_length_le hge] at h2
  have hn0 : atW l q ws = none := by
   unfold atW
   rw [List.findIdx?_eq_none_iff]
   exact h2
  rw [hn0] at hA
  subst hA
  repeat' (first
  | ((first | refine zag ?_ | refine zak ?_ | fail); simp [hx])
  | (refine ⟨by omega, ?_⟩)
  | (refine zah ?_; simp [hx])
  | (refine zau ?_; simp only [zao])
  | (refine za9 ?_; simp [zao])
  | (intro hc <;> (try (exfalso; omega)))
  | fail)
  (refine EndW.here ?_; (first | (refine EndOK.fin (.inr rfl) ?_) | (refine EndOK.fin (.inl rfl) ?_)); simp [zaI, zaf, Tryz.results202]; refine FinOK.here (by simp) ?_; try simp)
 ·have hlt : j < ws.length := (lGE.1 hx).1
  have hh := zbo l q w i nx hi hq hl.len
  cases hb : isB l q w with
  | false =>
   rw [hb, if_neg (by simp)] at hh
   repeat' (first
  | ((first | refine zag ?_ | refine zak ?_ | refine zah ?_ | fail); simp [hx])
  | (refine zar ?_; simp only [zao])
  | (refine ⟨?_, by omega⟩)
  | (intro hc <;> (try (exfalso; omega)))
  | fail)
   refine CallP.bok hh (by simp [zaa, getK]) rfl (by first | assumption | simp) rfl (by simp) ?_
   repeat' (first
  | ((first | refine zag ?_ | refine zak ?_ | fail); simp [hx])
  | (refine ⟨by omega, ?_⟩)
  | ((first | refine zai ?_ | refine zat ?_ | fail); simp [hx])
  | (refine zar ?_; simp only [zao])
  | fail)
   refine LoopW.next ⟨j + 1, by omega, zaY hx h2 hb⟩ (by simp; omega) ?_
   exact (Wk.cut rfl (by simp [hn, St.lp]) (by simp [wkO, St.lp, zaa, getK, Ob.under, D.under, zad, zae, hi, zab, zac, zaa, getK]) (by simp [wkU, St.lp, zal, zaa, getK, D.under, hi, zab, zac, zaa, getK]) (by simp [wkE, St.lp, zal, zaa, getK, hi, zab, zac, zaa, getK] <;> (try (intros; simp_all; done)) <;> (try (intros; omega)) <;> (try grind)))
  | true =>
   rw [hb, if_pos rfl] at hh
   have hn0 : atW l q ws = some j := by
    unfold atW
    rw [List.findIdx?_eq_some_iff_getElem]
    obtain ⟨h3, h4⟩ := lGE.1 hx
    refine ⟨h3, by rw [h4]; exact hb, fun k hk => ?_⟩
    have := h2 ws[k] (by rw [List.mem_take_iff_getElem]; exact ⟨k, by omega, rfl⟩)
    simp [this]
   rw [hn0] at hA
   subst hA
   repeat' (first
  | ((first | refine zag ?_ | refine zak ?_ | refine zah ?_ | fail); simp [hx])
  | (refine zar ?_; simp only [zao])
  | (refine ⟨?_, by omega⟩)
  | (intro hc <;> (try (exfalso; omega)))
  | fail)
   refine CallP.bok hh (by simp [zaa, getK]) rfl (by first | assumption | simp) rfl (by simp) ?_
   repeat' (first
  | ((first | refine zag ?_ | refine zak ?_ | refine zah ?_ | refine zai ?_ | fail); simp [hx])
  | (refine zau ?_; simp only [zao])
  | fail)
   (refine EndW.here ?_; (first | (refine EndOK.fin (.inr rfl) ?_) | (refine EndOK.fin (.inl rfl) ?_)); simp [zaI, zaf, Tryz.results202]; refine FinOK.here (by simp) ?_; try simp)
theorem znf (l : List Tok) (p : Nat) (i nx : Nat) (hi : i < nx) (hp : p < l.length) (hl : TokOK l) :
  RetX Tryz.prog 126 [.ptr i 0] [(i, pOb l p)] nx (PPost l i nx ziX (zg9 l p)) := by
 have hne := zaU hi
 have hll := hl.len
 have hor := zl3
 generalize hR : zg9 l p = R
 rw [zg9] at hR
 have hh1 := fun nx' (h : nx ≤ nx') => zbo l p [111, 114, 100, 101, 114] i nx' (by omega) hp hl.len
 by_cases c1 : isB l p [111, 114, 100, 101, 114] = true
 ·have g1 := zbm hl c1
  rw [if_pos c1] at hR
  simp only [c1, if_true] at hh1
  have hix := fun nx' (h : nx ≤ nx') => zmh l (p + 1) ordersW i nx' (by omega) g1 hl
  have hat : atW l (p + 1) ordersW = ordersW.findIdx? fun w => isB l (p + 1) w := rfl
  rw [← hat] at hR
  obtain ⟨t, ht⟩ : ∃ t, l[p + 1]? = some t := ⟨_, List.getElem?_eq_getElem g1⟩
  have hpa : zdD l (p + 1) = t.pos := by unfold zdD; rw [ht]
  rw [hpa] at hR
  cases hj : atW l (p + 1) ordersW with
  | none =>
   have hc2 := fun e nx' (h : nx ≤ nx') => zdK l (p + 1) t e i nx' (by omega) ht hl.len
   rw [hj] at hR hix
   simp only [Option.isSome_none, Bool.false_eq_true, if_false] at hR hix
   (refine RetX.of_bodyW Tryz.func126 rfl (by simp) fun Γ hn hpan => ?_); simp only [entry, ziC, ziN, maC, maN, oA, Tryz.ntmps126]
   repeat' (first
  | ((first | refine zag ?_ | refine zak ?_ | refine zah ?_ | refine zai ?_ | fail); simp [hne, del, nAA])
  | (refine zar ?_; simp only [zao])
  | (refine CallP.fE (hor) (by first | rfl | fail) (by first | simp [hne, del, nAA] <;> rfl | fail) ?_; (try simp [hne, del, nAA]))
  | (refine CallP.ok1 (hh1 _ (by first | omega | simp <;> omega | fail)) (by first | (simp [hne, del, nAA, zaa, getK, zab, zac]; done) | fail) (by rfl) (by rfl) ?_; (try simp [hne, del, nAA]))
  | (refine CallP.ok1 (hix _ (by first | omega | simp <;> omega | fail)) (by first | (simp [hne, del, nAA, zaa, getK, zab, zac]; done) | fail) (by rfl) (by rfl) ?_; (try simp [hne, del, nAA]))
  | (refine CallP.zeB (hc2 _ _ (by first | omega | simp <;> omega | fail)) (by first | (simp [hne, del, nAA, zaa, getK, zab, zac]; done) | fail) (by rfl) (by first | assumption | (simp; done) | fail) (by rfl) (by simp) ?_; rintro ob' ⟨q', rfl⟩; refine ⟨_, Wk.refl _, ?_⟩)
  | fail)
   (refine hpan _ _ ⟨{ n := _, env := [], obs := [(i, pOb l q')], next := nx }, (Wk.cut rfl (by simp [hn]) (by simp [wkO, zaa, getK, zab, zac, Ob.under, D.under, zad, zae, hi, hne, zab, zac, zaa, getK]) (by simp [wkU, zal, zaa, getK, D.under, hi, hne, zab, zac, zaa, getK]) (by simp [wkE, zal, zaa, getK, hi, hne, zab, zac, zaa, getK])), by simp [hn], ?_⟩; try simp)
   exact PPost.zaD hR.symm
  | some j =>
   have g2 : p + 1 + 1 < l.length := by
    unfold atW at hj
    rw [List.findIdx?_eq_some_iff_getElem] at hj
    obtain ⟨_, hb, _⟩ := hj
    exact zbm hl hb
   have hj0 : (0 : Int) ≤ (j : Int) := by omega
   have hc1 := fun e nx' (h : nx ≤ nx') => zfd l (p + 1 + 1) e i nx' (by omega)
   rw [hj] at hR hix
   simp only [Option.isSome_some, if_true] at hR hix
   (refine RetX.of_bodyW Tryz.func126 rfl (by simp) fun Γ hn hpan => ?_); simp only [entry, ziC, ziN, maC, maN, oA, Tryz.ntmps126]
   repeat' (first
  | ((first | refine zag ?_ | refine zak ?_ | refine zah ?_ | refine zai ?_ | fail); simp [hne, del, nAA, hj0])
  | (refine zar ?_; simp only [zao])
  | (refine CallP.fE (hor) (by first | rfl | fail) (by first | simp [hne, del, nAA, hj0] <;> rfl | fail) ?_; (try simp [hne, del, nAA, hj0]))
  | (refine CallP.ok1 (hh1 _ (by first | omega | simp <;> omega | fail)) (by first | (simp [hne, del, nAA, hj0, zaa, getK, zab, zac]; done) | fail) (by rfl) (by rfl) ?_; (try simp [hne, del, nAA, hj0]))
  | (refine CallP.ok1 (hix _ (by first | omega | simp <;> omega | fail)) (by first | (simp [hne, del, nAA, hj0, zaa, getK, zab, zac]; done) | fail) (by rfl) (by rfl) ?_; (try simp [hne, del, nAA, hj0]))
  | (refine CallP.ok1 (hc1 _ _ (by first | omega | simp <;> omega | fail)) (by first | (simp [hne, del, nAA, hj0, zaa, getK, zab, zac]; done) | fail) (by rfl) (by rfl) ?_; (try simp [hne, del, nAA, hj0]))
  | (refine zaF (by first | rfl | fail) ?_; simp [hne, del, nAA, hj0, frzN, frz1, zaC, zaB, St.frz, St.frzS, frzS, fv, zaQ, za2, za3, frzObS, zay, zas, del, frz, za7])
  | fail)
   (refine CallP.pp (zeD hl [59] (q := p + 1 + 1) (i := i) (by first | omega | simp <;> omega | fail) g2) (by first | (simp [hi, hne, nAA, zaa, getK, zab, zac]; done) | fail) (by rfl) (by first | assumption | (simp; done) | fail) (by rfl) (by simp) (fun v2 q2 h2 => ?_) (fun pos e q' h2 => ⟨_, Wk.refl _, ?_⟩); rotate_left 1; (focus (rw [h2, PR.zaL] at hR; (refine hpan _ _ ⟨{ n := _, env := [], obs := [(i, pOb l q')], next := nx }, (Wk.cut rfl (by simp [hn]) (by simp [wkO, zaa, getK, zab, zac, Ob.under, D.under, zad, zae, hi, hne, nAA, zab, zac, zaa, getK]) (by simp [wkU, zal, zaa, getK, D.under, hi, hne, nAA, zab, zac, zaa, getK]) (by simp [wkE, zal, zaa, getK, hi, hne, nAA, zab, zac, zaa, getK])), by simp [hn], ?_⟩; try simp); exact PPost.zaD hR.symm)); rw [h2, PR.bind_ok] at hR; (try simp [hi, hne, nAA]))
   repeat' (first
  | ((first | refine zag ?_ | refine zak ?_ | refine zah ?_ | fail); simp [hne, del])
  | (refine zau ?_; simp only [zao])
  | fail)
   (refine EndW.here ?_; (first | (refine EndOK.fin (.inr rfl) ?_) | (refine EndOK.fin (.inl rfl) ?_)); simp [zaI, zaf, Tryz.results126, hne, hi]; refine FinOK.cut [(i, pOb l q2)] (nx) (by simp [zaa, getK, zab, zac, Ob.under, D.under, zad, zae, hne, hi] <;> omega) (by simp [D.under]) (by simp [hn]) ?_; try simp)
   exact PPost.zcE hR.symm rfl rfl
 ·rw [if_neg c1] at hR
  simp only [c1, Bool.false_eq_true, if_false] at hh1
  (refine RetX.of_bodyW Tryz.func126 rfl (by simp) fun Γ hn hpan => ?_); simp only [entry, ziC, ziN, maC, maN, oA, Tryz.ntmps126]
  repeat' (first
  | ((first | refine zag ?_ | refine zak ?_ | refine zah ?_ | refine zai ?_ | fail); simp [hne, del, nAA])
  | (refine zau ?_; simp only [zao])
  | (refine CallP.ok1 (hh1 _ (by first | omega | simp <;> omega | fail)) (by first | (simp [hne, del, nAA, zaa, getK, zab, zac]; done) | fail) (by rfl) (by rfl) ?_; (try simp [hne, del, nAA]))
  | fail)
  (refine EndW.here ?_; (first | (refine EndOK.fin (.inr rfl) ?_) | (refine EndOK.fin (.inl rfl) ?_)); simp [zaI, zaf, Tryz.results126, hne, hi]; refine FinOK.cut [(i, pOb l p)] (nx) (by simp [zaa, getK, zab, zac, Ob.under, D.under, zad, zae, hne, hi] <;> omega) (by simp [D.under]) (by simp [hn]) ?_; try simp)
  exact PPost.zcE hR.symm rfl rfl
theorem zng {l : List Tok} (hl : TokOK l) {p q : Nat} {n : Int} (h : zg9 l p = .ok n q) (hp : p < l.length) : p ≤ q ∧ q < l.length := by
 unfold zg9 at h
 split at h
 ·split at h
  ·rename_i j hj
   rw [List.findIdx?_eq_some_iff_getElem] at hj
   obtain ⟨_, hb, _⟩ := hj
   obtain ⟨_, r2, h2, h⟩ := PR.zaH h
   have g2 := zaW hl _ h2 (zbm hl hb)
   cases h
   exact ⟨by omega, g2.2⟩
  ·cases h
 ·cases h; exact ⟨by omega, hp⟩
theorem zjy (x : Let) (s : W8) : Fun Tryz.prog 128 (zpd x :: [U.row [.str s] 0].map .u) (· = .u (.bool (decide (x.name = s)))) := by
 simp only [zpd, List.map_cons, List.map_nil]
 (refine Fun.of_body Tryz.func128 rfl (by simp) fun Γ hn => ?_); simp only [entry, ziC, ziN, maC, maN, oA, Tryz.ntmps128]
 repeat' (first
  | ((first | refine zag ?_ | refine zak ?_ | refine zah ?_ | fail); simp)
  | (refine zau ?_; simp only [zao])
  | fail)
 (refine EndOK.val (.inr rfl) ?_; simp [zaI, zaf, zaw, Tryz.results128])
theorem zmU (lets : List Let) (s : W8) : Fun Tryz.prog 90 [.u (zeO lets), .fnc (.func 128) [.u (.row [.str s] 0)]]
  (· = .u (.bool (lets.any fun x => decide (x.name = s)))) :=
 zeu lets 128 [U.row [.str s] 0] _ (fun x _ => zjy x s) (by simp) (fun _ => rfl) (fun _ => rfl)
theorem zmD (l : List Tok) (hl0 : 0 < l.length) (hl : TokOK l) (hl2 : l.length ≤ 2001) :
  RetX Tryz.prog 64 [.ptr 3 0] [(3, pOb l 0)] 4 (PPost l 3 4 byD (zqX l)) := by
 have hi : 3 < 4 := by decide
 have hne := zaU hi
 have hll := hl.len
 have htE : True := trivial
 generalize hR : zqX l = R
 rw [zqX] at hR
 (refine RetX.of_bodyW Tryz.func64 rfl (by simp) fun Γ hn hpan => ?_); simp only [entry, ziC, ziN, maC, maN, oA, Tryz.ntmps64]
 repeat' (first
  | ((first | refine zag ?_ | refine zak ?_ | refine zah ?_ | fail); simp [hne])
  | fail)
 (refine CallP.pp (zpe l 0 3 _ (by first | omega | simp <;> omega | fail) hl0 hl) (by first | (simp [hi, hne, del, htE, zaa, getK, zab, zac]; done) | fail) (by rfl) (by first | assumption | (simp; done) | fail) (by rfl) (by simp) (fun kb q1 h1 => ?_) (fun pos e q' h1 => ⟨_, Wk.refl _, ?_⟩); rotate_left 1; (focus (rw [h1, PR.zaL] at hR; (refine hpan _ _ ⟨{ n := _, env := [], obs := [(3, pOb l q')], next := 4 }, (Wk.cut rfl (by simp [hn]) (by simp [wkO, zaa, getK, zab, zac, Ob.under, D.under, zad, zae, hi, hne, del, htE, zab, zac, zaa, getK]) (by simp [wkU, zal, zaa, getK, D.under, hi, hne, del, htE, zab, zac, zaa, getK]) (by simp [wkE, zal, zaa, getK, hi, hne, del, htE, zab, zac, zaa, getK])), by simp [hn], ?_⟩; try simp); exact PPost.zaD hR.symm)); rw [h1, PR.bind_ok] at hR; (try simp [hi, hne, del, htE]))
 obtain ⟨_, g1⟩ := zpg hl h1 hl0
 have hm := zdQ l q1 [112, 101, 114, 105, 111, 100] g1 hl.len
 repeat' (first
  | ((first | refine zag ?_ | refine zak ?_ | refine zah ?_ | fail); simp [hne, del])
  | (refine CallP.fE (hm) (by first | rfl | fail) (by first | simp [hne, del] <;> rfl | fail) ?_; (try simp [hne, del]))
  | fail)
 (refine CallP.pp (zll l q1 [112, 101, 114, 105, 111, 100] 3 _ (by first | omega | simp <;> omega | fail) g1 hl) (by first | (simp [hi, hne, del, htE, zaa, getK, zab, zac]; done) | fail) (by rfl) (by first | assumption | (simp; done) | fail) (by rfl) (by simp) (fun u2 q2 h2 => ?_) (fun pos e q' h2 => ⟨_, Wk.refl _, ?_⟩); rotate_left 1; (focus (rw [h2, PR.zaL] at hR; (refine hpan _ _ ⟨{ n := _, env := [], obs := [(3, pOb l q')], next := 4 }, (Wk.cut rfl (by simp [hn]) (by simp [wkO, zaa, getK, zab, zac, Ob.under, D.under, zad, zae, hi, hne, del, htE, zab, zac, zaa, getK]) (by simp [wkU, zal, zaa, getK, D.under, hi, hne, del, htE, zab, zac, zaa, getK]) (by simp [wkE, zal, zaa, getK, hi, hne, del, htE, zab, zac, zaa, getK])), by simp [hn], ?_⟩; try simp); exact PPost.zaD hR.symm)); rw [h2, PR.bind_ok] at hR; (try simp [hi, hne, del, htE]))
 obtain ⟨rfl, _⟩ := znp h2
 repeat' (first
  | ((first | refine zag ?_ | refine zak ?_ | refine zah ?_ | fail); simp [hne, del])
  | (refine zaF (by first | rfl | fail) ?_; simp [hne, del, frzN, frz1, zaC, zaB, St.frz, St.frzS, frzS, fv, zaQ, za2, za3, frzObS, zay, zas, del, frz, za7])
  | fail)
 (refine CallP.pp (zdO l q2 [112, 101, 114, 105, 111, 100] 1 1000 [[100, 97, 121, 115], [59]] 3 _ (by first | omega | simp <;> omega | fail) g1 hl (by simp)) (by first | (simp [hi, hne, del, htE, zaa, getK, zab, zac]; done) | fail) (by rfl) (by first | assumption | (simp; done) | fail) (by rfl) (by simp) (fun period q3 h3 => ?_) (fun pos e q' h3 => ⟨_, Wk.refl _, ?_⟩); rotate_left 1; (focus (rw [h3, PR.zaL] at hR; (refine hpan _ _ ⟨{ n := _, env := [], obs := [(3, pOb l q')], next := 4 }, (Wk.cut rfl (by simp [hn]) (by simp [wkO, zaa, getK, zab, zac, Ob.under, D.under, zad, zae, hi, hne, del, htE, zab, zac, zaa, getK]) (by simp [wkU, zal, zaa, getK, D.under, hi, hne, del, htE, zab, zac, zaa, getK]) (by simp [wkE, zal, zaa, getK, hi, hne, del, htE, zab, zac, zaa, getK])), by simp [hn], ?_⟩; try simp); exact PPost.zaD hR.symm)); rw [h3, PR.bind_ok] at hR; (try simp [hi, hne, del, htE]))
 obtain ⟨_, g3⟩ := zdP hl h3 g1
 repeat' (first
  | ((first | refine zag ?_ | refine zak ?_ | refine zah ?_ | fail); simp [hne, del])
  | fail)
 have hm := zdQ l q3 [108, 97, 115, 116] g3 hl.len
 repeat' (first
  | (refine zag ?_; simp [hne, del])
  | (refine CallP.fE (hm) (by first | rfl | fail) (by first | simp [hne, del] <;> rfl | fail) ?_; (try simp [hne, del]))
  | fail)
 (refine CallP.pp (zll l q3 [108, 97, 115, 116] 3 _ (by first | omega | simp <;> omega | fail) g3 hl) (by first | (simp [hi, hne, del, htE, zaa, getK, zab, zac]; done) | fail) (by rfl) (by first | assumption | (simp; done) | fail) (by rfl) (by simp) (fun u4 q4 h4 => ?_) (fun pos e q' h4 => ⟨_, Wk.refl _, ?_⟩); rotate_left 1; (focus (rw [h4, PR.zaL] at hR; (refine hpan _ _ ⟨{ n := _, env := [], obs := [(3, pOb l q')], next := 4 }, (Wk.cut rfl (by simp [hn]) (by simp [wkO, zaa, getK, zab, zac, Ob.under, D.under, zad, zae, hi, hne, del, htE, zab, zac, zaa, getK]) (by simp [wkU, zal, zaa, getK, D.under, hi, hne, del, htE, zab, zac, zaa, getK]) (by simp [wkE, zal, zaa, getK, hi, hne, del, htE, zab, zac, zaa, getK])), by simp [hn], ?_⟩; try simp); exact PPost.zaD hR.symm)); rw [h4, PR.bind_ok] at hR; (try simp [hi, hne, del, htE]))
 obtain ⟨rfl, _⟩ := znp h4
 repeat' (first
  | ((first | refine zag ?_ | refine zak ?_ | refine zah ?_ | fail); simp [hne, del])
  | (refine zaF (by first | rfl | fail) ?_; simp [hne, del, frzN, frz1, zaC, zaB, St.frz, St.frzS, frzS, fv, zaQ, za2, za3, frzObS, zay, zas, del, frz, za7])
  | fail)
 (refine CallP.pp (zdO l q4 [108, 97, 115, 116] 1 1000 [[59]] 3 _ (by first | omega | simp <;> omega | fail) g3 hl (by simp)) (by first | (simp [hi, hne, del, htE, zaa, getK, zab, zac]; done) | fail) (by rfl) (by first | assumption | (simp; done) | fail) (by rfl) (by simp) (fun last q5 h5 => ?_) (fun pos e q' h5 => ⟨_, Wk.refl _, ?_⟩); rotate_left 1; (focus (rw [h5, PR.zaL] at hR; (refine hpan _ _ ⟨{ n := _, env := [], obs := [(3, pOb l q')], next := 4 }, (Wk.cut rfl (by simp [hn]) (by simp [wkO, zaa, getK, zab, zac, Ob.under, D.under, zad, zae, hi, hne, del, htE, zab, zac, zaa, getK]) (by simp [wkU, zal, zaa, getK, D.under, hi, hne, del, htE, zab, zac, zaa, getK]) (by simp [wkE, zal, zaa, getK, hi, hne, del, htE, zab, zac, zaa, getK])), by simp [hn], ?_⟩; try simp); exact PPost.zaD hR.symm)); rw [h5, PR.bind_ok] at hR; (try simp [hi, hne, del, htE]))
 obtain ⟨_, g5⟩ := zdP hl h5 g3
 repeat' (first
  | ((first | refine zag ?_ | refine zak ?_ | refine zah ?_ | fail); simp [hne, del])
  | (refine zaF (by first | rfl | fail) ?_; simp [hne, del, frzN, frz1, zaC, zaB, St.frz, St.frzS, frzS, fv, zaQ, za2, za3, frzObS, zay, zas, del, frz, za7])
  | fail)
 (refine CallP.pp (zdO l q5 [103, 114, 97, 99, 101] 0 1000 [[100, 97, 121, 115], [59]] 3 _ (by first | omega | simp <;> omega | fail) g5 hl (by simp)) (by first | (simp [hi, hne, del, htE, zaa, getK, zab, zac]; done) | fail) (by rfl) (by first | assumption | (simp; done) | fail) (by rfl) (by simp) (fun grace q6 h6 => ?_) (fun pos e q' h6 => ⟨_, Wk.refl _, ?_⟩); rotate_left 1; (focus (rw [h6, PR.zaL] at hR; (refine hpan _ _ ⟨{ n := _, env := [], obs := [(3, pOb l q')], next := 4 }, (Wk.cut rfl (by simp [hn]) (by simp [wkO, zaa, getK, zab, zac, Ob.under, D.under, zad, zae, hi, hne, del, htE, zab, zac, zaa, getK]) (by simp [wkU, zal, zaa, getK, D.under, hi, hne, del, htE, zab, zac, zaa, getK]) (by simp [wkE, zal, zaa, getK, hi, hne, del, htE, zab, zac, zaa, getK])), by simp [hn], ?_⟩; try simp); exact PPost.zaD hR.symm)); rw [h6, PR.bind_ok] at hR; (try simp [hi, hne, del, htE]))
 obtain ⟨_, g6⟩ := zdP hl h6 g5
 repeat' (first
  | ((first | refine zag ?_ | refine zak ?_ | refine zah ?_ | fail); simp [hne, del])
  | (refine zaF (by first | rfl | fail) ?_; simp [hne, del, frzN, frz1, zaC, zaB, St.frz, St.frzS, frzS, fv, zaQ, za2, za3, frzObS, zay, zas, del, frz, za7])
  | fail)
 (refine CallP.pp (zdO l q6 [119, 97, 105, 116] 0 1000 [[100, 97, 121, 115], [59]] 3 _ (by first | omega | simp <;> omega | fail) g6 hl (by simp)) (by first | (simp [hi, hne, del, htE, zaa, getK, zab, zac]; done) | fail) (by rfl) (by first | assumption | (simp; done) | fail) (by rfl) (by simp) (fun wait q7 h7 => ?_) (fun pos e q' h7 => ⟨_, Wk.refl _, ?_⟩); rotate_left 1; (focus (rw [h7, PR.zaL] at hR; (refine hpan _ _ ⟨{ n := _, env := [], obs := [(3, pOb l q')], next := 4 }, (Wk.cut rfl (by simp [hn]) (by simp [wkO, zaa, getK, zab, zac, Ob.under, D.under, zad, zae, hi, hne, del, htE, zab, zac, zaa, getK]) (by simp [wkU, zal, zaa, getK, D.under, hi, hne, del, htE, zab, zac, zaa, getK]) (by simp [wkE, zal, zaa, getK, hi, hne, del, htE, zab, zac, zaa, getK])), by simp [hn], ?_⟩; try simp); exact PPost.zaD hR.symm)); rw [h7, PR.bind_ok] at hR; (try simp [hi, hne, del, htE]))
 obtain ⟨_, g7⟩ := zdP hl h7 g6
 repeat' (first
  | ((first | refine zag ?_ | refine zak ?_ | refine zah ?_ | fail); simp [hne, del])
  | fail)
 (refine CallP.pp (znf l q7 3 _ (by first | omega | simp <;> omega | fail) g7 hl) (by first | (simp [hi, hne, del, htE, zaa, getK, zab, zac]; done) | fail) (by rfl) (by first | assumption | (simp; done) | fail) (by rfl) (by simp) (fun order q8 h8 => ?_) (fun pos e q' h8 => ⟨_, Wk.refl _, ?_⟩); rotate_left 1; (focus (rw [h8, PR.zaL] at hR; (refine hpan _ _ ⟨{ n := _, env := [], obs := [(3, pOb l q')], next := 4 }, (Wk.cut rfl (by simp [hn]) (by simp [wkO, zaa, getK, zab, zac, Ob.under, D.under, zad, zae, hi, hne, del, htE, zab, zac, zaa, getK]) (by simp [wkU, zal, zaa, getK, D.under, hi, hne, del, htE, zab, zac, zaa, getK]) (by simp [wkE, zal, zaa, getK, hi, hne, del, htE, zab, zac, zaa, getK])), by simp [hn], ?_⟩; try simp); exact PPost.zaD hR.symm)); rw [h8, PR.bind_ok] at hR; (try simp [hi, hne, del, htE]))
 obtain ⟨_, g8⟩ := zng hl h8 g7
 repeat' (first
  | ((first | refine zag ?_ | refine zak ?_ | refine zah ?_ | fail); simp [hne, del])
  | (refine zaF (by first | rfl | fail) ?_; simp [hne, del, frzN, frz1, zaC, zaB, St.frz, St.frzS, frzS, fv, zaQ, za2, za3, frzObS, zay, zas, del, frz, za7])
  | fail)
 (refine CallP.pp (zdO l q8 [98, 97, 99, 107, 115] 0 60 [[59]] 3 _ (by first | omega | simp <;> omega | fail) g8 hl (by simp)) (by first | (simp [hi, hne, del, htE, zaa, getK, zab, zac]; done) | fail) (by rfl) (by first | assumption | (simp; done) | fail) (by rfl) (by simp) (fun backs q9 h9 => ?_) (fun pos e q' h9 => ⟨_, Wk.refl _, ?_⟩); rotate_left 1; (focus (rw [h9, PR.zaL] at hR; (refine hpan _ _ ⟨{ n := _, env := [], obs := [(3, pOb l q')], next := 4 }, (Wk.cut rfl (by simp [hn]) (by simp [wkO, zaa, getK, zab, zac, Ob.under, D.under, zad, zae, hi, hne, del, htE, zab, zac, zaa, getK]) (by simp [wkU, zal, zaa, getK, D.under, hi, hne, del, htE, zab, zac, zaa, getK]) (by simp [wkE, zal, zaa, getK, hi, hne, del, htE, zab, zac, zaa, getK])), by simp [hn], ?_⟩; try simp); exact PPost.zaD hR.symm)); rw [h9, PR.bind_ok] at hR; (try simp [hi, hne, del, htE]))
 obtain ⟨_, g9⟩ := zdP hl h9 g8
 repeat' (first
  | ((first | refine zag ?_ | refine zak ?_ | refine zah ?_ | fail); simp [hne, del])
  | (refine zaF (by first | rfl | fail) ?_; simp [hne, del, frzN, frz1, zaC, zaB, St.frz, St.frzS, frzS, fv, zaQ, za2, za3, frzObS, zay, zas, del, frz, za7])
  | fail)
 (refine CallP.pp (zdO l q9 [118, 111, 105, 99, 101, 115] 0 1000 [[112, 101, 114], [109, 105, 108, 108, 101], [59]] 3 _ (by first | omega | simp <;> omega | fail) g9 hl (by simp)) (by first | (simp [hi, hne, del, htE, zaa, getK, zab, zac]; done) | fail) (by rfl) (by first | assumption | (simp; done) | fail) (by rfl) (by simp) (fun voices q10 h10 => ?_) (fun pos e q' h10 => ⟨_, Wk.refl _, ?_⟩); rotate_left 1; (focus (rw [h10, PR.zaL] at hR; (refine hpan _ _ ⟨{ n := _, env := [], obs := [(3, pOb l q')], next := 4 }, (Wk.cut rfl (by simp [hn]) (by simp [wkO, zaa, getK, zab, zac, Ob.under, D.under, zad, zae, hi, hne, del, htE, zab, zac, zaa, getK]) (by simp [wkU, zal, zaa, getK, D.under, hi, hne, del, htE, zab, zac, zaa, getK]) (by simp [wkE, zal, zaa, getK, hi, hne, del, htE, zab, zac, zaa, getK])), by simp [hn], ?_⟩; try simp); exact PPost.zaD hR.symm)); rw [h10, PR.bind_ok] at hR; (try simp [hi, hne, del, htE]))
 obtain ⟨_, g10⟩ := zdP hl h10 g9
 repeat' (first
  | ((first | refine zag ?_ | refine zak ?_ | refine zah ?_ | fail); simp [hne, del])
  | (refine zaF (by first | rfl | fail) ?_; simp [hne, del, frzN, frz1, zaC, zaB, St.frz, St.frzS, frzS, fv, zaQ, za2, za3, frzObS, zay, zas, del, frz, za7])
  | fail)
 (refine CallP.pp (zdO l q10 [106, 117, 114, 121] 0 60 [[59]] 3 _ (by first | omega | simp <;> omega | fail) g10 hl (by simp)) (by first | (simp [hi, hne, del, htE, zaa, getK, zab, zac]; done) | fail) (by rfl) (by first | assumption | (simp; done) | fail) (by rfl) (by simp) (fun jury q11 h11 => ?_) (fun pos e q' h11 => ⟨_, Wk.refl _, ?_⟩); rotate_left 1; (focus (rw [h11, PR.zaL] at hR; (refine hpan _ _ ⟨{ n := _, env := [], obs := [(3, pOb l q')], next := 4 }, (Wk.cut rfl (by simp [hn]) (by simp [wkO, zaa, getK, zab, zac, Ob.under, D.under, zad, zae, hi, hne, del, htE, zab, zac, zaa, getK]) (by simp [wkU, zal, zaa, getK, D.under, hi, hne, del, htE, zab, zac, zaa, getK]) (by simp [wkE, zal, zaa, getK, hi, hne, del, htE, zab, zac, zaa, getK])), by simp [hn], ?_⟩; try simp); exact PPost.zaD hR.symm)); rw [h11, PR.bind_ok] at hR; (try simp [hi, hne, del, htE]))
 obtain ⟨_, g11⟩ := zdP hl h11 g10
 repeat' (first
  | ((first | refine zag ?_ | refine zak ?_ | refine zah ?_ | fail); simp [hne, del])
  | (refine zaF (by first | rfl | fail) ?_; simp [hne, del, frzN, frz1, zaC, zaB, St.frz, St.frzS, frzS, fv, zaQ, za2, za3, frzObS, zay, zas, del, frz, za7])
  | fail)
 (refine CallP.pp (zdO l q11 [102, 117, 110, 100] 0 1000 [[112, 101, 114], [109, 105, 108, 108, 101], [59]] 3 _ (by first | omega | simp <;> omega | fail) g11 hl (by simp)) (by first | (simp [hi, hne, del, htE, zaa, getK, zab, zac]; done) | fail) (by rfl) (by first | assumption | (simp; done) | fail) (by rfl) (by simp) (fun fund q12 h12 => ?_) (fun pos e q' h12 => ⟨_, Wk.refl _, ?_⟩); rotate_left 1; (focus (rw [h12, PR.zaL] at hR; (refine hpan _ _ ⟨{ n := _, env := [], obs := [(3, pOb l q')], next := 4 }, (Wk.cut rfl (by simp [hn]) (by simp [wkO, zaa, getK, zab, zac, Ob.under, D.under, zad, zae, hi, hne, del, htE, zab, zac, zaa, getK]) (by simp [wkU, zal, zaa, getK, D.under, hi, hne, del, htE, zab, zac, zaa, getK]) (by simp [wkE, zal, zaa, getK, hi, hne, del, htE, zab, zac, zaa, getK])), by simp [hn], ?_⟩; try simp); exact PPost.zaD hR.symm)); rw [h12, PR.bind_ok] at hR; (try simp [hi, hne, del, htE]))
 obtain ⟨_, g12⟩ := zdP hl h12 g11
 repeat' (first
  | ((first | refine zag ?_ | refine zak ?_ | refine zah ?_ | fail); simp [hne, del])
  | fail)
 refine zmJ _ (Wk.ownC 5 _ 11 137 6 (by decide) rfl rfl) ?_
 simp [St.ownC]
 refine zcn (α := { x : Nat × List Let × Nat // x.1 < l.length ∧ x.2.1.length + x.2.2 = 21 ∧ x.2.1.length ≤ 20 ∧ zhh l 21 q12 [] = zhh l x.2.2 x.1 x.2.1 }) [0, 2, 3] (fun x => [])
  (fun x => [(5, .box [.u (.int .i64 kb.1), .u (.int .i64 period), .u (.int .i64 grace), .u (.int .i64 wait), .u (.int .i64 last), .u (.int .i64 order), .u (.bool kb.2), .u (.int .i64 backs), .u (.int .i64 voices), .u (.int .i64 jury), .u (.int .i64 fund), .vec 14 x.1.2.1.length, .u (.int .i64 0), .u (.int .i64 0), .u (.int .i64 0), .u (.str []), .u .nil, .u (.int .i64 0), .u (.int .i64 0), .u (.int .i64 0), .u (.str []), .u .nil, .u (.int .i64 0), .u (.int .i64 0), .u (.int .i64 0), .u (.str []), .u .nil, .u (.int .i64 0), .u (.int .i64 0), .u (.int .i64 0), .u (.str []), .u .nil, .u (.int .i64 0), .u (.int .i64 0), .u (.int .i64 0), .u (.str []), .u .nil]), (14, .vec 137 6 (rowsD (zgA x.1.2.1))), (4, .box [.u (.int .i64 0), .u (.int .i64 0), .u (.int .i64 0), .u (.int .i64 0), .u (.int .i64 0), .u (.int .i64 0), .u (.bool false), .u (.int .i64 0), .u (.int .i64 0), .u (.int .i64 0), .u (.int .i64 0), .u .nil, .u (.int .i64 0), .u (.int .i64 0), .u (.int .i64 0), .u (.str []), .u .nil, .u (.int .i64 0), .u (.int .i64 0), .u (.int .i64 0), .u (.str []), .u .nil, .u (.int .i64 0), .u (.int .i64 0), .u (.int .i64 0), .u (.str []), .u .nil, .u (.int .i64 0), .u (.int .i64 0), .u (.int .i64 0), .u (.str []), .u .nil, .u (.int .i64 0), .u (.int .i64 0), .u (.int .i64 0), .u (.str []), .u .nil]), (3, pOb l x.1.1)]) 15 (fun x => x.1.2.2) ⟨(q12, [], 21), g12, rfl, by simp, rfl⟩ ?_ ?_
 ·exact (Wk.cut rfl (by simp [hn, St.lp]) (by simp [wkO, St.lp, zaa, getK, Ob.under, D.under, zad, zae, zgA]) (by simp [wkU, St.lp, zal, zaa, getK, D.under, zgA]) (by simp [wkE, St.lp, zal, zaa, getK, zgA] <;> (try (intros; simp_all; done)) <;> (try (intros; omega)) <;> (try grind)))
 rintro ⟨⟨q, acc, g⟩, gq, hg, hg2, hS⟩
 simp only at gq hg hg2 hS
 simp [St.lp, St.only, zal, zaa, getK]
 have hm := zdQ l q [108, 101, 116] gq hl.len
 have hAl := znF acc
 have hsn := zmb acc
 generalize hA : zgA acc = A at *
 have htk : A.take acc.length = A := List.take_of_length_le (by omega)
 obtain ⟨g, rfl⟩ : ∃ g', g = g' + 1 := ⟨g - 1, by omega⟩
 by_cases hb : isB l q [108, 101, 116] = true
 ·have g1q := zbm hl hb
  obtain ⟨t, ht⟩ : ∃ t, l[q + 1]? = some t := ⟨_, List.getElem?_eq_getElem g1q⟩
  have hnx := zcj l (q + 1) t ht hl.len
  rw [zma ht, if_pos hb] at hS
  rw [hS, PR.zei] at hR
  rw [hb] at hm
  repeat' (first
  | ((first | refine zag ?_ | refine zak ?_ | refine zah ?_ | refine zai ?_ | refine zaA ?_ | fail); simp [hne, del, hAl])
  | (refine zar ?_; simp only [zao])
  | (refine CallP.fE (hm) (by first | rfl | fail) (by first | simp [hne, del, hAl] <;> rfl | fail) ?_; (try simp [hne, del, hAl]))
  | fail)
  (refine CallP.pp (zhs l q (decide ((acc.length : Int) < 20)) 6 3 _ (by first | omega | simp <;> omega | fail) gq hl) (by first | (simp [hi, hne, del, zaa, getK, zab, zac]; done) | fail) (by rfl) (by first | assumption | (simp; done) | fail) (by rfl) (by simp) (fun u20 q20 h20 => ?_) (fun pos e q' h20 => ⟨_, Wk.refl _, ?_⟩); rotate_left 1; (focus (rw [h20, PR.zaL] at hR; (refine hpan _ _ ⟨{ n := _, env := [], obs := [(3, pOb l q')], next := 4 }, (Wk.cut rfl (by simp [hn]) (by simp [wkO, zaa, getK, zab, zac, Ob.under, D.under, zad, zae, hi, hne, del, zab, zac, zaa, getK]) (by simp [wkU, zal, zaa, getK, D.under, hi, hne, del, zab, zac, zaa, getK]) (by simp [wkE, zal, zaa, getK, hi, hne, del, zab, zac, zaa, getK])), by simp [hn], ?_⟩; try simp); exact PPost.zaD hR.symm)); rw [h20, PR.bind_ok] at hR; (try simp [hi, hne, del]))
  obtain ⟨rfl, hlt⟩ := zog h20
  rw [h20, PR.bind_ok] at hS
  rw [PR.zei] at hR
  by_cases hw : t.kind = 1
  case neg =>
   have hc2 := fun e nx' (h : 15 ≤ nx') => zdK l (q20 + 1) t e 3 nx' (by omega) ht hl.len
   have e3 : zmI l (q20 + 1) (decide (t.kind = 1) && zep t.text) 12 = .stop t.pos 12 := by
    unfold zmI zdD; rw [ht]; simp [hw]
   rw [e3, PR.zaL] at hR
   repeat' (first
  | ((first | refine zag ?_ | refine zak ?_ | fail); simp [hne, del, hw])
  | (refine ⟨by omega, ?_⟩)
  | (refine zah ?_; simp [hne, del, hw])
  | (refine CallP.fE (hnx) (by first | rfl | fail) (by first | simp [hne, del, hw] <;> rfl | fail) ?_; (try simp [hne, del, hw]))
  | (refine CallP.zeB (hc2 _ _ (by first | omega | simp <;> omega | fail)) (by first | (simp [hne, del, hw, zaa, getK, zab, zac]; done) | fail) (by rfl) (by first | assumption | (simp; done) | fail) (by rfl) (by simp) ?_; rintro ob' ⟨q', rfl⟩; refine ⟨_, Wk.refl _, ?_⟩)
  | fail)
   (refine hpan _ _ ⟨{ n := _, env := [], obs := [(3, pOb l q')], next := 4 }, (Wk.cut rfl (by simp [hn]) (by simp [wkO, zaa, getK, zab, zac, Ob.under, D.under, zad, zae, hi, hne, zab, zac, zaa, getK]) (by simp [wkU, zal, zaa, getK, D.under, hi, hne, zab, zac, zaa, getK]) (by simp [wkE, zal, zaa, getK, hi, hne, zab, zac, zaa, getK])), by simp [hn], ?_⟩; try simp)
   exact PPost.zaD hR.symm
  have hnm := zgI t.text
  have e3 : (decide (t.kind = 1) && zep t.text) = zep t.text := by simp [hw]
  rw [e3] at hR hS
  generalize zep t.text = nb at hnm hR hS
  repeat' (first
  | ((first | refine zag ?_ | refine zak ?_ | fail); simp [hne, del, hw])
  | (refine ⟨by omega, ?_⟩)
  | (refine zah ?_; simp [hne, del, hw])
  | (refine CallP.fE (hnx) (by first | rfl | fail) (by first | simp [hne, del, hw] <;> rfl | fail) ?_; (try simp [hne, del, hw]))
  | (refine CallP.fE (hnm) (by first | rfl | fail) (by first | simp [hne, del, hw] <;> rfl | fail) ?_; (try simp [hne, del, hw]))
  | fail)
  (refine CallP.pp (zhs l (q20 + 1) nb 12 3 _ (by first | omega | simp <;> omega | fail) g1q hl) (by first | (simp [hi, hne, del, zaa, getK, zab, zac]; done) | fail) (by rfl) (by first | assumption | (simp; done) | fail) (by rfl) (by simp) (fun u21 q21 h21 => ?_) (fun pos e q' h21 => ⟨_, Wk.refl _, ?_⟩); rotate_left 1; (focus (rw [h21, PR.zaL] at hR; (refine hpan _ _ ⟨{ n := _, env := [], obs := [(3, pOb l q')], next := 4 }, (Wk.cut rfl (by simp [hn]) (by simp [wkO, zaa, getK, zab, zac, Ob.under, D.under, zad, zae, hi, hne, del, zab, zac, zaa, getK]) (by simp [wkU, zal, zaa, getK, D.under, hi, hne, del, zab, zac, zaa, getK]) (by simp [wkE, zal, zaa, getK, hi, hne, del, zab, zac, zaa, getK])), by simp [hn], ?_⟩; try simp); exact PPost.zaD hR.symm)); rw [h21, PR.bind_ok] at hR; (try simp [hi, hne, del]))
  obtain ⟨rfl, hnb⟩ := zog h21
  rw [h21, PR.bind_ok] at hS
  rw [PR.zei] at hR
  have htw := zmU acc t.text
  have htw : Fun Tryz.prog 90 [.u (.sl (zgA acc)), .fnc (.func 128) [.u (.row [.str t.text] 0)]] (· = .u (.bool (acc.any fun x => decide (x.name = t.text)))) := htw
  rw [hA] at htw
  generalize (acc.any fun x => decide (x.name = t.text)) = tb at htw hR hS
  repeat' (first
  | ((first | refine zag ?_ | refine zak ?_ | refine zah ?_ | fail); simp [hne, del, hw, htk, hAl])
  | (refine CallP.fE (htw) (by first | rfl | fail) (by first | simp [hne, del, hw, htk, hAl] <;> rfl | fail) ?_; (try simp [hne, del, hw, htk, hAl]))
  | fail)
  (refine CallP.pp (zhs l (q20 + 1) (!tb) 5 3 _ (by first | omega | simp <;> omega | fail) g1q hl) (by first | (simp [hi, hne, del, zaa, getK, zab, zac]; done) | fail) (by rfl) (by first | assumption | (simp; done) | fail) (by rfl) (by simp) (fun u22 q22 h22 => ?_) (fun pos e q' h22 => ⟨_, Wk.refl _, ?_⟩); rotate_left 1; (focus (rw [h22, PR.zaL] at hR; (refine hpan _ _ ⟨{ n := _, env := [], obs := [(3, pOb l q')], next := 4 }, (Wk.cut rfl (by simp [hn]) (by simp [wkO, zaa, getK, zab, zac, Ob.under, D.under, zad, zae, hi, hne, del, zab, zac, zaa, getK]) (by simp [wkU, zal, zaa, getK, D.under, hi, hne, del, zab, zac, zaa, getK]) (by simp [wkE, zal, zaa, getK, hi, hne, del, zab, zac, zaa, getK])), by simp [hn], ?_⟩; try simp); exact PPost.zaD hR.symm)); rw [h22, PR.bind_ok] at hR; (try simp [hi, hne, del]))
  obtain ⟨rfl, htb⟩ := zog h22
  rw [h22, PR.bind_ok] at hS
  rw [PR.zei] at hR
  have g2q := hl.fin (q20 + 1) t ht (by omega)
  repeat' (first
  | ((first | refine zag ?_ | refine zak ?_ | fail); simp [hne, del])
  | (refine ⟨by omega, ?_⟩)
  | (refine zah ?_; simp [hne, del])
  | (refine zaF (by first | rfl | fail) ?_; simp [hne, del, frzN, frz1, zaC, zaB, St.frz, St.frzS, frzS, fv, zaQ, za2, za3, frzObS, zay, zas, del, frz, za7])
  | fail)
  (refine CallP.pp (zeD hl [61] (q := q20 + 1 + 1) (i := 3) (by first | omega | simp <;> omega | fail) g2q) (by first | (simp [hi, hne, del, zaa, getK, zab, zac]; done) | fail) (by rfl) (by first | assumption | (simp; done) | fail) (by rfl) (by simp) (fun u23 q23 h23 => ?_) (fun pos e q' h23 => ⟨_, Wk.refl _, ?_⟩); rotate_left 1; (focus (rw [h23, PR.zaL] at hR; (refine hpan _ _ ⟨{ n := _, env := [], obs := [(3, pOb l q')], next := 4 }, (Wk.cut rfl (by simp [hn]) (by simp [wkO, zaa, getK, zab, zac, Ob.under, D.under, zad, zae, hi, hne, del, zab, zac, zaa, getK]) (by simp [wkU, zal, zaa, getK, D.under, hi, hne, del, zab, zac, zaa, getK]) (by simp [wkE, zal, zaa, getK, hi, hne, del, zab, zac, zaa, getK])), by simp [hn], ?_⟩; try simp); exact PPost.zaD hR.symm)); rw [h23, PR.bind_ok] at hR; (try simp [hi, hne, del]))
  obtain ⟨_, g23⟩ := zaW hl _ h23 g2q
  rw [h23, PR.bind_ok] at hS
  rw [PR.zei] at hR
  have hwh := fun nx' (h : 15 ≤ nx') => zgT l q23 3 nx' (by omega) g23 hl hl2
  cases hr : zex l q23 with
  | stop pos e =>
   rw [hr, PR.zaL] at hR
   simp only [hr] at hwh
   repeat' (first
  | (refine zfW (fun nx' h' => hwh nx' (by simp at h'; omega)) (by first | (simp [hne, del, htk, hAl, zaa, getK, zab, zac, zan, zaR]; done) | fail) (by rfl) (by first | assumption | simp) (by rfl) (by simp) ?_ ?_; rintro env' ob' n' hn' ⟨q', rfl⟩; refine ⟨_, Wk.refl _, ?_⟩)
  | (refine zeZ rfl (by simp) ?_; simp)
  | ((first | refine zb0 rfl ?_ | refine zak ?_ | fail); simp [hne, del, htk, hAl])
  | (refine zfX (hC _ (by kernel_rfl)) rfl; done)
  | (refine zbZ rfl (by kernel_rfl) (by first | (simp [hn]; done) | (simp [hn]; omega) | fail) fun C k hC hk => ?_; simp [hne, del, htk, hAl])
  | fail)
   (refine hpan _ _ ⟨{ n := _, env := [], obs := [(3, pOb l q')], next := 4 }, (Wk.cut rfl (by simp [hn]) (by simp [wkO, zaa, getK, zab, zac, Ob.under, D.under, zad, zae, hi, hne, zab, zac, zaa, getK]) (by simp [wkU, zal, zaa, getK, D.under, hi, hne, zab, zac, zaa, getK]) (by simp [wkE, zal, zaa, getK, hi, hne, zab, zac, zaa, getK])), by simp [hn], ?_⟩; try simp)
   exact PPost.zaD hR.symm
  | ok e r =>
   have hwh := fun nx' h => zdp (hwh nx' h) hr
   obtain ⟨_, g24⟩ := zgV hl hr g23
   rw [hr, PR.bind_ok] at hS
   repeat' (first
  | (refine zhy (fun nx' h' => hwh nx' (by simp at h'; omega)) (by first | (simp [hne, del, htk, hAl, zaa, getK, zab, zac, zan, zaR]; done) | fail) (by rfl) (by first | assumption | simp) (by rfl) (by simp [D.under, Ob.under]) (by simp) ?_; (try simp [hne, del, htk, hAl]))
  | ((first | refine zb0 rfl ?_ | refine zdi rfl ?_ | refine zak ?_ | fail); simp [hne, del, htk, hAl])
  | (refine ⟨by omega, ?_⟩)
  | (refine zcM (hC _ (by kernel_rfl)) (hk _ ?_); clear hC hk C k; simp only [zao])
  | (refine zbZ rfl (by kernel_rfl) (by first | (simp [hn]; done) | (simp [hn]; omega) | fail) fun C k hC hk => ?_; simp [hne, del, htk, hAl])
  | fail)
   have hlt' : acc.length < 20 := by have := of_decide_eq_true hlt; omega
   refine LoopW.next ⟨(r, acc ++ [⟨t.text, e⟩], g), g24, (by simp; omega), (by simp; omega), hS⟩ (by simp) ?_
   exact (Wk.ren ((fun j => if j = 14 then 18 else j)) rfl (by first | (simp [hn]; done) | (intro i hi; rw [hn] at hi; constructor <;> (try simp) <;> (try (intro _)) <;> omega)) (by simp [zjk, St.lp, zal, zaa, getK, zac, zan, D.under, D.le, D.ren, hsn, htk] <;> (try (intros; simp_all; done)) <;> (try omega)) (by simp [wkR, St.lp, zaa, getK, zac, zan, obR, leU, zb2, za4, Ob.under, D.under, D.le, D.ren, hsn, htk] <;> (try (intros; simp_all; done)) <;> (try omega)) (by simp [hsn, htk]))
 ·rw [znE hb] at hS
  rw [hS, PR.bind_ok] at hR
  have hb2 : isB l q [108, 101, 116] = false := by simpa using hb
  rw [hb2] at hm
  repeat' (first
  | ((first | refine zag ?_ | refine zak ?_ | refine zah ?_ | refine zai ?_ | fail); simp [hne, del])
  | (refine za9 ?_; simp [zao])
  | (refine CallP.fE (hm) (by first | rfl | fail) (by first | simp [hne, del] <;> rfl | fail) ?_; (try simp [hne, del]))
  | (refine zaF (by first | rfl | fail) ?_; simp [hne, del, frzN, frz1, zaC, zaB, St.frz, St.frzS, frzS, fv, zaQ, za2, za3, frzObS, zay, zas, del, frz, za7])
  | fail)
  (refine CallP.pp (zeD hl [100, 117, 101] (q := q) (i := 3) (by first | omega | simp <;> omega | fail) gq) (by first | (simp [hi, hne, del, zaa, getK, zab, zac]; done) | fail) (by rfl) (by first | assumption | (simp; done) | fail) (by rfl) (by simp) (fun u30 q30 h30 => ?_) (fun pos e q' h30 => ⟨_, Wk.refl _, ?_⟩); rotate_left 1; (focus (rw [h30, PR.zaL] at hR; (refine hpan _ _ ⟨{ n := _, env := [], obs := [(3, pOb l q')], next := 4 }, (Wk.cut rfl (by simp [hn]) (by simp [wkO, zaa, getK, zab, zac, Ob.under, D.under, zad, zae, hi, hne, del, zab, zac, zaa, getK]) (by simp [wkU, zal, zaa, getK, D.under, hi, hne, del, zab, zac, zaa, getK]) (by simp [wkE, zal, zaa, getK, hi, hne, del, zab, zac, zaa, getK])), by simp [hn], ?_⟩; try simp); exact PPost.zaD hR.symm)); rw [h30, PR.bind_ok] at hR; (try simp [hi, hne, del]))
  obtain ⟨_, g30⟩ := zaW hl _ h30 gq
  repeat' (first
  | ((first | refine zag ?_ | refine zak ?_ | refine zah ?_ | fail); simp [hne, del])
  | fail)
  (refine CallP.pp (zgT l q30 3 _ (by first | omega | simp <;> omega | fail) g30 hl hl2) (by first | (simp [hi, hne, del, zeE, Exp.row_eq, zaa, getK, zab, zac]; done) | fail) (by rfl) (by first | assumption | (simp; done) | fail) (by rfl) (by simp) (fun due q31 h31 => ?_) (fun pos e q' h31 => ⟨_, Wk.refl _, ?_⟩); rotate_left 1; (focus (rw [h31, PR.zaL] at hR; (refine hpan _ _ ⟨{ n := _, env := [], obs := [(3, pOb l q')], next := 4 }, (Wk.cut rfl (by simp [hn]) (by simp [wkO, zaa, getK, zab, zac, Ob.under, D.under, zad, zae, hi, hne, del, zeE, Exp.row_eq, zab, zac, zaa, getK]) (by simp [wkU, zal, zaa, getK, D.under, hi, hne, del, zeE, Exp.row_eq, zab, zac, zaa, getK]) (by simp [wkE, zal, zaa, getK, hi, hne, del, zeE, Exp.row_eq, zab, zac, zaa, getK])), by simp [hn], ?_⟩; try simp); exact PPost.zaD hR.symm)); rw [h31, PR.bind_ok] at hR; (try simp [hi, hne, del, zeE, Exp.row_eq]))
  obtain ⟨_, g31⟩ := zgV hl h31 g30
  repeat' (first
  | ((first | refine zag ?_ | refine zak ?_ | refine zah ?_ | fail); simp [hne, del])
  | fail)
  (refine CallP.pp (zfb l q31 [102, 105, 110, 101] 3 _ (by first | omega | simp <;> omega | fail) g31 hl hl2) (by first | (simp [hi, hne, del, zeE, Exp.row_eq, zaa, getK, zab, zac]; done) | fail) (by rfl) (by first | assumption | (simp; done) | fail) (by rfl) (by simp) (fun fine q32 h32 => ?_) (fun pos e q' h32 => ⟨_, Wk.refl _, ?_⟩); rotate_left 1; (focus (rw [h32, PR.zaL] at hR; (refine hpan _ _ ⟨{ n := _, env := [], obs := [(3, pOb l q')], next := 4 }, (Wk.cut rfl (by simp [hn]) (by simp [wkO, zaa, getK, zab, zac, Ob.under, D.under, zad, zae, hi, hne, del, zeE, Exp.row_eq, zab, zac, zaa, getK]) (by simp [wkU, zal, zaa, getK, D.under, hi, hne, del, zeE, Exp.row_eq, zab, zac, zaa, getK]) (by simp [wkE, zal, zaa, getK, hi, hne, del, zeE, Exp.row_eq, zab, zac, zaa, getK])), by simp [hn], ?_⟩; try simp); exact PPost.zaD hR.symm)); rw [h32, PR.bind_ok] at hR; (try simp [hi, hne, del, zeE, Exp.row_eq]))
  obtain ⟨_, g32⟩ := zfc hl h32 g31
  repeat' (first
  | (refine zag ?_; simp [hne, del])
  | fail)
  (refine CallP.pp (zfb l q32 [112, 97, 121] 3 _ (by first | omega | simp <;> omega | fail) g32 hl hl2) (by first | (simp [hi, hne, del, zeE, Exp.row_eq, zaa, getK, zab, zac]; done) | fail) (by rfl) (by first | assumption | (simp; done) | fail) (by rfl) (by simp) (fun pay q33 h33 => ?_) (fun pos e q' h33 => ⟨_, Wk.refl _, ?_⟩); rotate_left 1; (focus (rw [h33, PR.zaL] at hR; (refine hpan _ _ ⟨{ n := _, env := [], obs := [(3, pOb l q')], next := 4 }, (Wk.cut rfl (by simp [hn]) (by simp [wkO, zaa, getK, zab, zac, Ob.under, D.under, zad, zae, hi, hne, del, zeE, Exp.row_eq, zab, zac, zaa, getK]) (by simp [wkU, zal, zaa, getK, D.under, hi, hne, del, zeE, Exp.row_eq, zab, zac, zaa, getK]) (by simp [wkE, zal, zaa, getK, hi, hne, del, zeE, Exp.row_eq, zab, zac, zaa, getK])), by simp [hn], ?_⟩; try simp); exact PPost.zaD hR.symm)); rw [h33, PR.bind_ok] at hR; (try simp [hi, hne, del, zeE, Exp.row_eq]))
  obtain ⟨_, g33⟩ := zfc hl h33 g32
  repeat' (first
  | (refine zag ?_; simp [hne, del])
  | fail)
  (refine CallP.pp (zfb l q33 [99, 111, 118, 101, 114] 3 _ (by first | omega | simp <;> omega | fail) g33 hl hl2) (by first | (simp [hi, hne, del, zeE, Exp.row_eq, zaa, getK, zab, zac]; done) | fail) (by rfl) (by first | assumption | (simp; done) | fail) (by rfl) (by simp) (fun cover q34 h34 => ?_) (fun pos e q' h34 => ⟨_, Wk.refl _, ?_⟩); rotate_left 1; (focus (rw [h34, PR.zaL] at hR; (refine hpan _ _ ⟨{ n := _, env := [], obs := [(3, pOb l q')], next := 4 }, (Wk.cut rfl (by simp [hn]) (by simp [wkO, zaa, getK, zab, zac, Ob.under, D.under, zad, zae, hi, hne, del, zeE, Exp.row_eq, zab, zac, zaa, getK]) (by simp [wkU, zal, zaa, getK, D.under, hi, hne, del, zeE, Exp.row_eq, zab, zac, zaa, getK]) (by simp [wkE, zal, zaa, getK, hi, hne, del, zeE, Exp.row_eq, zab, zac, zaa, getK])), by simp [hn], ?_⟩; try simp); exact PPost.zaD hR.symm)); rw [h34, PR.bind_ok] at hR; (try simp [hi, hne, del, zeE, Exp.row_eq]))
  obtain ⟨_, g34⟩ := zfc hl h34 g33
  repeat' (first
  | (refine zag ?_; simp [hne, del])
  | fail)
  (refine CallP.pp (zfb l q34 [104, 111, 108, 100] 3 _ (by first | omega | simp <;> omega | fail) g34 hl hl2) (by first | (simp [hi, hne, del, zeE, Exp.row_eq, zaa, getK, zab, zac]; done) | fail) (by rfl) (by first | assumption | (simp; done) | fail) (by rfl) (by simp) (fun hold q35 h35 => ?_) (fun pos e q' h35 => ⟨_, Wk.refl _, ?_⟩); rotate_left 1; (focus (rw [h35, PR.zaL] at hR; (refine hpan _ _ ⟨{ n := _, env := [], obs := [(3, pOb l q')], next := 4 }, (Wk.cut rfl (by simp [hn]) (by simp [wkO, zaa, getK, zab, zac, Ob.under, D.under, zad, zae, hi, hne, del, zeE, Exp.row_eq, zab, zac, zaa, getK]) (by simp [wkU, zal, zaa, getK, D.under, hi, hne, del, zeE, Exp.row_eq, zab, zac, zaa, getK]) (by simp [wkE, zal, zaa, getK, hi, hne, del, zeE, Exp.row_eq, zab, zac, zaa, getK])), by simp [hn], ?_⟩; try simp); exact PPost.zaD hR.symm)); rw [h35, PR.bind_ok] at hR; (try simp [hi, hne, del, zeE, Exp.row_eq]))
  obtain ⟨_, g35⟩ := zfc hl h35 g34
  obtain ⟨t, ht⟩ : ∃ t, l[q35]? = some t := ⟨_, List.getElem?_eq_getElem g35⟩
  have hnx := zcj l q35 t ht hl.len
  repeat' (first
  | ((first | refine zag ?_ | refine zak ?_ | refine zah ?_ | fail); simp [hne, del])
  | (refine CallP.fE (hnx) (by first | rfl | fail) (by first | simp [hne, del] <;> rfl | fail) ?_; (try simp [hne, del]))
  | fail)
  (refine CallP.pp (zqQ ht 3 _ (by first | omega | simp <;> omega | fail) hl) (by first | (simp [hi, hne, del, zaa, getK, zab, zac]; done) | fail) (by rfl) (by first | assumption | (simp; done) | fail) (by rfl) (by simp) (fun u36 q36 h36 => ?_) (fun pos e q' h36 => ⟨_, Wk.refl _, ?_⟩); rotate_left 1; (focus (rw [h36, PR.zaL] at hR; (refine hpan _ _ ⟨{ n := _, env := [], obs := [(3, pOb l q')], next := 4 }, (Wk.cut rfl (by simp [hn]) (by simp [wkO, zaa, getK, zab, zac, Ob.under, D.under, zad, zae, hi, hne, del, zab, zac, zaa, getK]) (by simp [wkU, zal, zaa, getK, D.under, hi, hne, del, zab, zac, zaa, getK]) (by simp [wkE, zal, zaa, getK, hi, hne, del, zab, zac, zaa, getK])), by simp [hn], ?_⟩; try simp); exact PPost.zaD hR.symm)); rw [h36, PR.bind_ok] at hR; (try simp [hi, hne, del]))
  obtain rfl := zrP h36
  repeat' (first
  | ((first | refine zag ?_ | refine zak ?_ | refine zah ?_ | fail); simp [hne, del])
  | (refine zau ?_; simp only [zao])
  | fail)
  (refine EndW.frzN 1 ?_; simp [frzN, frz1, zaC, zaB, St.frz, St.frzS, frzS, fv, zaQ, za2, za3, frzObS, zay, zas, del, frz, za7, hAl, htk])
  refine EndW.norm ?_
  simp [St.norm, zbc, zbR, zb6, zb7, hne]
  (refine EndW.here ?_; (first | (refine EndOK.fin (.inr rfl) ?_) | (refine EndOK.fin (.inl rfl) ?_)); simp [zaI, zaf, Tryz.results64, hne, hi]; refine FinOK.cut [(3, pOb l q36)] (4) (by simp [zaa, getK, zab, zac, Ob.under, D.under, zad, zae, hne, hi] <;> omega) (by simp [D.under]) (by simp [hn]) ?_; try simp)
  exact PPost.zcE hR.symm (by simp [zbr, ← hA, zgA]) rfl
end Go.Proofs.YtepiegcjnaohjaaGreatDoor
namespace Go.Proofs.YtepiegcjnaohjaaGreatDoor
open Go Go.VL
def zgS : By := ⟨0, 0, 0, 0, 0, 0, false, 0, 0, 0, 0, [], zgR, zgR, zgR, zgR, zgR⟩
/-- What Parse returns: the bylaws, the place, the error. -/
def zdu (s : W8) : By × Int × Int := match zmG s with
 | .error (p, e) => (zgS, p, e)
 | .ok l => match zqX l with
  | .stop pos e => (zgS, pos, e)
  | .ok b _ => (b, 0, 0)
def zrU (r : By × Int × Int) : D := .tup [.u (.agg (zbr r.1)), .u (.int .i64 r.2.1), .u (.int .i64 r.2.2)]
abbrev zpK : Ob := .box [.u (.int .i64 0), .u (.int .i64 0), .u (.int .i64 0), .u (.int .i64 0), .u (.int .i64 0), .u (.int .i64 0), .u (.bool false), .u (.int .i64 0), .u (.int .i64 0), .u (.int .i64 0), .u (.int .i64 0), .u .nil, .u (.int .i64 0), .u (.int .i64 0), .u (.int .i64 0), .u (.str []), .u .nil, .u (.int .i64 0), .u (.int .i64 0), .u (.int .i64 0), .u (.str []), .u .nil, .u (.int .i64 0), .u (.int .i64 0), .u (.int .i64 0), .u (.str []), .u .nil, .u (.int .i64 0), .u (.int .i64 0), .u (.int .i64 0), .u (.str []), .u .nil, .u (.int .i64 0), .u (.int .i64 0), .u (.int .i64 0), .u (.str []), .u .nil]
end Go.Proofs.YtepiegcjnaohjaaGreatDoor
namespace Go.Proofs.YtepiegcjnaohjaaGreatDoor
open Go Go.VL
mutual
def zrI : Exp → Int
 | .mk _ _ _ _ args => znC args + 1
def znC : List Exp → Int
 | [] => 0
 | e :: l => max (zrI e) (znC l)
end
theorem zhQ (l : List Int) (a : Int) (ha : 0 ≤ a) : l.foldl max a = max a (l.foldl max 0) := by
 induction l generalizing a with
 | nil => simp; omega
 | cons b l ih => simp only [List.foldl_cons]; rw [ih (max a b) (by omega), ih (max 0 b) (by omega)]; omega
mutual
theorem znD : ∀ e : Exp, zrI e = e.lev
 | .mk op n u s args => by rw [zrI, Exp.zhD, zlq]; rfl
theorem zlq : ∀ l : List Exp, znC l = (l.map Exp.lev).foldl max 0
 | [] => by rw [znC]; rfl
 | e :: l => by
  have := e.lev_pos
  rw [znC, znD, zlq, List.map_cons, List.foldl_cons, zhQ (l.map Exp.lev) (max 0 e.lev) (by omega)]
  omega
end
/-- The same az parseX, to be computed with. -/
def zta (s : List UInt8) : Exp × Int × Int := match zmG s with
 | .error (p, e) => (zgR, p, e)
 | .ok l => match zez l (4 * l.length + 3) 0 0 with
  | .stop pos e => (zgR, pos, e)
  | .ok y q => if zrL l q ≠ 0 then (zgR, zdD l q, 12) else if 12 < zrI y then (zgR, zdD l q, 6) else (y, 0, 0)
def zjl (l : List Tok) (p : Nat) : PR Exp := (zez l (4 * l.length + 3) p 0).bind fun e q =>
 if isB l q [59] = true then if zrI e ≤ 12 then .ok e (q + 1) else .stop (zdD l q) 6 else .stop (zdD l q) 12
def zo4 (l : List Tok) : Nat → Nat → List Let → PR (List Let)
 | 0, _, _ => .stop 0 0
 | f + 1, p, acc => if isB l p [108, 101, 116] = true then
   if acc.length < 20 then match l[p + 1]? with
    | none => .stop 0 0
    | some t => if t.kind = 1 ∧ zep t.text = true then
          if (acc.any fun x => decide (x.name = t.text)) = true then .stop t.pos 5
          else (zbV l (p + 2) [[61]]).bind fun _ q => (zjl l q).bind fun e r => zo4 l f r (acc ++ [⟨t.text, e⟩])
     else .stop t.pos 12
   else .stop (zdD l p) 6
  else .ok acc p
def zgh (l : List Tok) (p : Nat) (word : W8) : PR Exp := if isB l p word = true then zjl l (p + 1) else .ok nothingE p
def zsV (l : List Tok) : PR By :=
 (zkQ l 0).bind fun k p => (zkK l p [112, 101, 114, 105, 111, 100]).bind fun _ p => (zd3 l p [112, 101, 114, 105, 111, 100] 1 1000 [[100, 97, 121, 115], [59]]).bind fun period p =>
 (zkK l p [108, 97, 115, 116]).bind fun _ p => (zd3 l p [108, 97, 115, 116] 1 1000 [[59]]).bind fun last p =>
 (zd3 l p [103, 114, 97, 99, 101] 0 1000 [[100, 97, 121, 115], [59]]).bind fun grace p => (zd3 l p [119, 97, 105, 116] 0 1000 [[100, 97, 121, 115], [59]]).bind fun wait p =>
 (zg9 l p).bind fun order p => (zd3 l p [98, 97, 99, 107, 115] 0 60 [[59]]).bind fun backs p => (zd3 l p [118, 111, 105, 99, 101, 115] 0 1000 [[112, 101, 114], [109, 105, 108, 108, 101], [59]]).bind fun voices p =>
 (zd3 l p [106, 117, 114, 121] 0 60 [[59]]).bind fun jury p => (zd3 l p [102, 117, 110, 100] 0 1000 [[112, 101, 114], [109, 105, 108, 108, 101], [59]]).bind fun fund p =>
 (zo4 l 21 p []).bind fun lets p => (zbV l p [[100, 117, 101]]).bind fun _ p => (zjl l p).bind fun due p =>
 (zgh l p [102, 105, 110, 101]).bind fun fine p => (zgh l p [112, 97, 121]).bind fun pay p => (zgh l p [99, 111, 118, 101, 114]).bind fun cover p => (zgh l p [104, 111, 108, 100]).bind fun hold p =>
 (zqR l p).bind fun _ p => .ok ⟨k.1, period, grace, wait, last, order, k.2, backs, voices, jury, fund, lets, due, fine, pay, cover, hold⟩ p
theorem zgU : zex = zjl := by
 funext l p
 unfold zex zjl
 simp only [znD]
theorem zlr (l : List Tok) : ∀ f p acc, zhh l f p acc = zo4 l f p acc
 | 0, p, acc => rfl
 | f + 1, p, acc => by
  rw [zhh, zo4, zgU]
  simp only [zlr l f]
  try rfl
theorem zmA : zdZ = zgh := by
 funext l p w
 unfold zdZ zgh
 rw [zgU]
theorem zqW (l : List Tok) : zqX l = zsV l := by
 unfold zqX zsV
 rw [zgU, zmA]
 simp only [zlr]
def zli (s : W8) : By × Int × Int := match zmG s with
 | .error (p, e) => (zgS, p, e)
 | .ok l => match zsV l with
  | .stop pos e => (zgS, pos, e)
  | .ok b _ => (b, 0, 0)
theorem zjK (s : W8) : zdu s = zli s := by
 unfold zdu zli
 simp only [zqW]
 try rfl
end Go.Proofs.YtepiegcjnaohjaaGreatDoor
namespace Go.Proofs.YtepiegcjnaohjaaGreatDoor
open Go Go.VL
abbrev zn2 : W8 := [99, 105, 114, 99, 108, 101, 32, 115, 97, 118, 105, 110, 103, 32, 59, 32, 112, 101, 114, 105, 111, 100, 32, 55, 32, 100, 97, 121, 115, 32, 59, 32, 108, 97, 115, 116, 32, 49, 48, 32, 59, 32, 100, 117, 101, 32, 53, 32, 99, 111, 105, 110, 115, 32, 59]
def bG : By := ⟨2, 7, 0, 0, 10, 0, false, 0, 0, 0, 0, [], .mk 0 5 3 [] [], nothingE, nothingE, nothingE, nothingE⟩
theorem gv1 : zli zn2 = (bG, 0, 0) := by kernel_rfl
theorem gv2 : zli [99, 105, 114, 99, 108, 101] = (zgS, 6, 12) := by kernel_rfl
theorem gv3 : (zeg bG).2 = 0 := by kernel_rfl
theorem gv4 : Df.rightL (zk2 bG) 5 = true := by kernel_rfl
theorem gv5 : zcX bG = true := by kernel_rfl
theorem gv6 : Df.Sol (zk2 bG) (fun n => [0, 7, 6, 6, 13].getD n 0) := by
 unfold zk2
 rw [if_pos gv5]
 intro c hc
 simp only [List.mem_cons, List.mem_nil_iff, or_false] at hc
 rcases hc with rfl | rfl | rfl | rfl | rfl | rfl | rfl | rfl | rfl | rfl <;> decide
theorem zlP {l : List Df.Con} {n : Int} {V C E} (h : Df.SolveSpec l n V C E) (hr : Df.rightL l n = true) (y : Nat → Int) (hy : Df.Sol l y) : E = 0 := by
 rcases h with ⟨h1, _⟩ | ⟨_, ⟨_, _, _, _, _, rfl⟩ | ⟨h1, _⟩⟩
 ·rw [hr] at h1; cases h1
 ·rfl
 ·exact absurd hy (h1 y)
end Go.Proofs.YtepiegcjnaohjaaGreatDoor
namespace Go.Proofs.YtepiegcjnaohjaaGreatDoor
open Go Go.VL
attribute [local simp] HS zc8 zb5 evPure opd uOf zaG St.put St.at getK binD binI binS binB nilD aggD zgN zhG lookD lookR zcF Go.VL.nextD zcH zhM zhH zfY zb4 mkV zbl zbf zbe zbd zc5 za8 zbt zbG mapEff zdl zfy Key.kk shiftI arith unD convD zdL loadD cellsAt fieldAddrD fieldD indexAddrD indexD sliceD cutD lenD minmaxD nilCheckD buildD fillD zbY zdg ze1 setAll zcV zeA zcw zht zct St.add zaM zbP rowsOf zdG zcK zan zac zaa zbi zcN zaK entry zbE zbI valD zb8 zcg zgC zds zdt zb1 zbK zaz zaX zbz delAll effD St.effS zc6 zbg zaZ zc7 zbh za1 zch za0 zaT zci zcW zbL zcc zbs zca zcb zaR mkD zbk zbC zbQ zaz zcv D.ids Op.operands Call.operands zbu makeIfD makeFuncD typeAssertD zhF zdy zdz zhE zcG IntKind.bits zb9 zaS List.take_of_length_le List.range_succ
attribute [local irreducible] V G H HD HD2 HD4 zoD RetX zao Eff CallP CallV EndOK Fun Ret FinOK LoopI LoopW EndW
theorem zpP (i j q nx : Nat) (hi : i < nx) (hj : j < nx) (hq : q < nx) (hij : i ≠ j) (hiq : i ≠ q) (hjq : j ≠ q) (p e : Int) (cells : List U) :
  RetDf Tryz.prog 62 [.ptr i 0, .ptr j 0, .ptr q 0] [(i, .box [.u (.int .i64 p)]), (j, .box [.u (.int .i64 e)]), (q, .box (cells.map .u))] nx .returning
   (fun u o n => settle u = .returning ∧ n = nx ∧ o = [(i, .box [.u (.int .i64 p)]), (j, .box [.u (.int .i64 e)]), (q, .box (cells.map .u))]) := by
 have hne := zaU hi
 have hne2 := zaU hj
 have hne3 := zaU hq
 have hc0 := zk1 i j nx hi hj hij p e
 refine RetDf.of_body Tryz.func62 rfl (by simp) (by simp) rfl fun Γ hn => ?_
 simp [entry, zlY, Tryz.ntmps62]
 refine CallP.x2 hc0 (by simp [getK]) (by simp [getK, hij, Ne.symm hij]) hij rfl rfl (by simp) (by simp) (fun d o1 nx' hnx h => ?_) (fun ch o1 nx' hnx h => by cases h.1)
 obtain ⟨h1, rfl, h4⟩ := h
 have h4 := h4.symm
 subst h4
 cases h1
 simp [del, hij, Ne.symm hij, hiq, hjq, Ne.symm hiq, Ne.symm hjq]
 repeat' (first
  | (refine zai ?_; simp [hij, hiq, hjq])
  | (refine zar ?_; simp only [zao])
  | fail)
 (refine ⟨by simp, { n := _, env := [], obs := [(i, .box [.u (.int .i64 p)]), (j, .box [.u (.int .i64 e)]), (q, .box (cells.map .u))], next := nx }, (Wk.cut rfl (by simp [hn]) (by simp [wkO, zaa, getK, zab, zac, Ob.under, D.under, zad, zae, hi, hj, hq, hne, hne2, hne3, hij, hiq, hjq, Ne.symm hij, Ne.symm hiq, Ne.symm hjq]) (by simp [wkU, zal, zaa, getK, D.under, hi, hj, hq, hne, hne2, hne3, hij, hiq, hjq, Ne.symm hij, Ne.symm hiq, Ne.symm hjq]) (by simp [wkE, zal, zaa, getK, hi, hj, hq, hne, hne2, hne3, hij, hiq, hjq, Ne.symm hij, Ne.symm hiq, Ne.symm hjq])), by simp [hn], ?_⟩; try simp)
 all_goals rfl
theorem zpQ (i j q nx : Nat) (hi : i < nx) (hj : j < nx) (hq : q < nx) (hij : i ≠ j) (hiq : i ≠ q) (hjq : j ≠ q) (p e pos err : Int) :
  RetDf Tryz.prog 62 [.ptr i 0, .ptr j 0, .ptr q 0] [(i, .box [.u (.int .i64 p)]), (j, .box [.u (.int .i64 e)]), (q, zpK)] nx (.panicking (chP pos err))
   (fun u o n => settle u = .returning ∧ n = nx ∧ o = [(i, .box [.u (.int .i64 pos)]), (j, .box [.u (.int .i64 err)]), (q, zpK)]) := by
 have hne := zaU hi
 have hne2 := zaU hj
 have hne3 := zaU hq
 have hc0 := zk0 i j nx hi hj hij p e pos err
 refine RetDf.of_body Tryz.func62 rfl (by simp) (by simp) rfl fun Γ hn => ?_
 simp [entry, zlY, chP, Tryz.ntmps62]
 refine CallP.x2 hc0 (by simp [getK]) (by simp [getK, hij, Ne.symm hij]) hij rfl rfl (by simp) (by simp) (fun d o1 nx' hnx h => ?_) (fun ch o1 nx' hnx h => by cases h.1)
 obtain ⟨h1, rfl, h4⟩ := h
 have h4 := h4.symm
 subst h4
 cases h1
 simp [del, hij, Ne.symm hij, hiq, hjq, Ne.symm hiq, Ne.symm hjq]
 repeat' (first
  | ((first | refine zag ?_ | refine zak ?_ | refine zai ?_ | refine zat ?_ | fail); simp [hij, hiq, hjq])
  | fail)
 (refine ⟨by simp, { n := _, env := [], obs := [(i, .box [.u (.int .i64 pos)]), (j, .box [.u (.int .i64 err)]), (q, zpK)], next := nx }, (Wk.cut rfl (by simp [hn]) (by simp [wkO, zaa, getK, zab, zac, Ob.under, D.under, zad, zae, hi, hj, hq, hne, hne2, hne3, hij, hiq, hjq, Ne.symm hij, Ne.symm hiq, Ne.symm hjq]) (by simp [wkU, zal, zaa, getK, D.under, hi, hj, hq, hne, hne2, hne3, hij, hiq, hjq, Ne.symm hij, Ne.symm hiq, Ne.symm hjq]) (by simp [wkE, zal, zaa, getK, hi, hj, hq, hne, hne2, hne3, hij, hiq, hjq, Ne.symm hij, Ne.symm hiq, Ne.symm hjq])), by simp [hn], ?_⟩; try simp)
 all_goals rfl
theorem znb (s : W8) : RetX Tryz.prog 25 [.u (.str s)] [] 0 (fun r o n => r = .val (zrU (zdu s))) := by
 skip
 unfold zdu
 cases hlx : zmG s with
 | error pe =>
  obtain ⟨p, e⟩ := pe
  have ho := fun nx => zoV s p e nx hlx
  have he := (zo3 hlx).1
  simp only
  (refine RetX.zgQ Tryz.func25 rfl (by simp) fun Γ hn hdfr hpan hesc => ?_); simp only [entry, ziC, ziN, maC, maN, oA, Tryz.ntmps25]
  repeat' (first
  | ((first | refine zag ?_ | refine zb0 rfl ?_ | refine zdi rfl ?_ | refine zak ?_ | refine zah ?_ | refine zai ?_ | fail); simp [he])
  | (refine zcM (hC _ (by kernel_rfl)) (hk _ ?_); clear hC hk C k; simp only [zao])
  | (refine zbZ rfl (by kernel_rfl) (by first | (simp [hn]; done) | (simp [hn]; omega) | fail) fun C k hC hk => ?_; simp [he])
  | (refine zau ?_; simp only [zao])
  | (refine CallP.okL (ho _) (by first | (simp [he, zaa, getK, zab, zac, zan, zaR, del]; done) | fail) (by rfl) (by rfl) ?_; (try simp [he, zkV, del]))
  | fail)
  refine EndW.norm ?_
  simp [St.norm, zbc, zbR, zb6, zb7]
  (refine EndW.here ?_; (first | (refine EndOK.fin (.inr rfl) ?_) | (refine EndOK.fin (.inl rfl) ?_)); simp [zaI, zaf, Tryz.results25]; refine FinOK.here (by simp) ?_; try simp)
  simp [zrU, zbr, zgS, zgR, Exp.op, Exp.n, Exp.unit, Exp.s, Exp.args]
 | ok l =>
  obtain ⟨hl, hl2, hl0⟩ := zqD hlx
  have ho := fun nx => zqy s l nx hlx
  have hE := zmD l hl0 hl hl2
  simp only
  cases hr : zqX l with
  | stop pos e =>
   simp only [hr] at hE ⊢
   (refine RetX.zgQ Tryz.func25 rfl (by simp) fun Γ hn hdfr hpan hesc => ?_); simp only [entry, ziC, ziN, maC, maN, oA, Tryz.ntmps25]
   rw [zii]
   repeat' (first
  | ((first | refine zag ?_ | refine zak ?_ | refine zah ?_ | refine zai ?_ | fail); simp)
  | (refine zar ?_; simp only [zao])
  | (refine CallP.okL (ho _) (by first | (simp [zaa, getK, zab, zac, zan, zaR, del]; done) | fail) (by rfl) (by rfl) ?_; (try simp [zkV, del]))
  | fail)
   refine zoy hesc hdfr rfl (by simp) ?_
   have hn0 := hn
   have hpan0 := hpan
   intro Γ' hn hpan
   simp
   repeat' (first
  | ((first | refine zag ?_ | refine zah ?_ | fail); simp)
  | (refine CallP.zeB (hE) (by first | (simp [zaa, getK, zab, zac]; done) | fail) (by rfl) (by first | assumption | (simp; done) | fail) (by rfl) (by simp) ?_; rintro ob' ⟨q', rfl⟩; refine ⟨_, Wk.refl _, ?_⟩)
  | fail)
   refine hpan _ _ ?_
   refine LeaveD.of [(1, .box [.u (.int .i64 0)]), (2, .box [.u (.int .i64 0)]), (0, zpK)] (by simp [zaa, getK, zab, zac]) (zpQ 1 2 0 _ (by simp) (by simp) (by simp) (by decide) (by decide) (by decide) 0 0 _ _) ?_
   simp only [show Γ.base.n0 = 0 from hn0]
   simp [zkV, del]
   refine EndW.norm ?_
   simp [St.norm, zbc, zbR, zb6, zb7]
   (refine EndW.here ?_; (first | (refine EndOK.fin (.inr rfl) ?_) | (refine EndOK.fin (.inl rfl) ?_)); simp [zaI, zaf, Tryz.results25]; refine FinOK.here (by simp) ?_; try simp)
   simp [zrU, zbr, zgS, zgR, Exp.op, Exp.n, Exp.unit, Exp.s, Exp.args]
  | ok b q =>
   have hEx : RetX Tryz.prog 64 [.ptr 3 0] [(3, pOb l 0)] 4 (fun r o n => r = .val (.u (.agg (zbr b))) ∧ o = [(3, pOb l q)] ∧ n = 4) := by
    rw [hr] at hE
    exact hE
   unfold zbr at hEx
   (refine RetX.zgQ Tryz.func25 rfl (by simp) fun Γ hn hdfr hpan hesc => ?_); simp only [entry, ziC, ziN, maC, maN, oA, Tryz.ntmps25]
   rw [zii]
   repeat' (first
  | ((first | refine zag ?_ | refine zak ?_ | refine zah ?_ | refine zai ?_ | fail); simp)
  | (refine zar ?_; simp only [zao])
  | (refine CallP.okL (ho _) (by first | (simp [zaa, getK, zab, zac, zan, zaR, del]; done) | fail) (by rfl) (by rfl) ?_; (try simp [zkV, del]))
  | fail)
   refine zoy hesc hdfr rfl (by simp) ?_
   have hn0 := hn
   have hpan0 := hpan
   intro Γ' hn hpan
   simp
   repeat' (first
  | ((first | refine zag ?_ | refine zak ?_ | refine zah ?_ | fail); simp [del])
  | (refine zau ?_; simp only [zao])
  | (refine CallP.ok1 (hEx) (by first | (simp [del, zaa, getK, zab, zac]; done) | fail) (by rfl) (by rfl) ?_; (try simp [del]))
  | fail)
   refine ⟨rfl, ?_⟩
   refine LeaveD.of [(1, .box [.u (.int .i64 0)]), (2, .box [.u (.int .i64 0)]), (0, .box ((zbr b).map .u))] (by simp [zaa, getK, zab, zac, zbr]) (zpP 1 2 0 _ (by simp) (by simp) (by simp) (by decide) (by decide) (by decide) 0 0 _) ?_
   simp only [show Γ.base.n0 = 0 from hn0]
   simp [zkV, del, zbr]
   (refine EndW.here ?_; (first | (refine EndOK.fin (.inr rfl) ?_) | (refine EndOK.fin (.inl rfl) ?_)); simp [zaI, zaf, Tryz.results25]; refine FinOK.here (by simp) ?_; try simp)
   simp [zrU, zbr]
theorem znc (s : W8) : Fun Tryz.prog 25 [.u (.str s)] (· = .tup [byD (zdu s).1, .u (.int .i64 (zdu s).2.1), .u (.int .i64 (zdu s).2.2)]) := by
 unfold Fun
 exact (znb s).ret (fun d o n h => by
  cases h
  exact ⟨by simp [zrU, zaw], rfl⟩) (fun ch o n h => by cases h)
end Go.Proofs.YtepiegcjnaohjaaGreatDoor
namespace Go.Proofs.YtepiegcjnaohjaaGreatDoor
open Go Go.VL
open Df (Con)
attribute [local simp] zc8 zb5 evPure opd uOf zaG St.put St.at getK binD binI binS binB nilD aggD zgN zhG lookD lookR zcF Go.VL.nextD zcH zhM zhH zfY zb4 mkV zbl zbf zbe zbd zc5 za8 zbt zbG mapEff zdl zfy Key.kk shiftI arith unD convD zdL loadD cellsAt fieldAddrD fieldD indexAddrD indexD sliceD cutD lenD minmaxD nilCheckD buildD fillD zbY zdg ze1 setAll zcV zeA zcw zht zct St.add zaM zbP rowsOf zdG zcK zan zac zaa zbi zcN zaK entry zbE zbI valD zb8 zcg zgC zds zdt zb1 zbK zaz zaX zbz delAll effD St.effS zc6 zbg zaZ zc7 zbh za1 zch za0 zaT zci zcW zbL zcc zbs zca zcb zaR mkD zbk zbC zbQ zaz zcv D.ids Op.operands Call.operands zbu makeIfD makeFuncD typeAssertD zhF zdy zdz zhE zcG IntKind.bits zb9 zaS List.take_of_length_le List.range_succ
attribute [local irreducible] V G H HD HD2 zao Eff CallP CallV EndOK Fun Ret FinOK LoopI LoopW EndW
theorem zqV (b : By) : Fun Tryz.prog 27 [.u (.agg (zbr b))] (· = .u (Df.consU (zk2 b))) := by
 have hri := zg3 b
 unfold zk2 Df.consU
 cases hb : zcX b with
 | false =>
  rw [hb] at hri
  rw [if_neg (by simp)]
  unfold zbr at hri ⊢
  (refine Fun.of_bodyW Tryz.func27 rfl (by simp) fun Γ hn => ?_); simp only [entry, ziC, ziN, maC, maN, oA, Tryz.ntmps27]
  repeat' (first
  | ((first | refine zag ?_ | refine zak ?_ | refine zah ?_ | refine zai ?_ | fail); simp)
  | (refine zau ?_; simp only [zao])
  | (refine CallP.fE (hri) (by first | rfl | fail) (by first | (simp; done) | (simp; rfl) | fail) ?_; (try simp))
  | fail)
  refine EndW.norm (EndW.here ?_)
  (refine EndOK.val (.inr rfl) ?_; simp [zaI, zaf, zaw, Tryz.results27, zaB, zaC, zcq, zcr, frz, za7, frzS, fv, zaQ, za2, za3, frzObS, zay, zas, zbR, zb6, zb7, zbc])
 | true =>
  rw [hb] at hri
  rw [if_pos rfl]
  have hh := hb
  simp only [zcX, zqI, zqO, Bool.and_eq_true, decide_eq_true_eq] at hh
  obtain ⟨⟨⟨⟨⟨⟨⟨⟨i1, i2⟩, i3⟩, i4⟩, i5⟩, hsl⟩, hLn⟩, hLb⟩, _⟩ := hh
  simp only [inB, List.any_cons, List.any_nil, Bool.or_false, Bool.not_eq_true', Bool.or_eq_false_iff, decide_eq_false_iff_not, Int.not_lt] at i1 i2 i3 i4 i5
  clear hLb hb
  unfold zbr at hri ⊢
  (refine Fun.of_bodyW Tryz.func27 rfl (by simp) fun Γ hn => ?_); simp only [entry, ziC, ziN, maC, maN, oA, Tryz.ntmps27]
  repeat' (first
  | ((first | refine zag ?_ | refine zak ?_ | fail); simp)
  | (refine ⟨by omega, ?_⟩)
  | ((first | refine zah ?_ | refine zai ?_ | fail); simp)
  | ((first | refine zau ?_ | refine zar ?_ | fail); simp only [zao])
  | (refine CallP.fE (hri) (by first | rfl | fail) (by first | (simp; done) | (simp; rfl) | fail) ?_; (try simp))
  | fail)
  (refine EndW.frzN 1 ?_; simp [frzN, frz1, zaC, zaB, St.frz, St.frzS, frzS, fv, zaQ, za2, za3, frzObS, zay, zas, del, frz, za7])
  refine EndW.norm (EndW.here ?_)
  (refine EndOK.val (.inr rfl) ?_; simp [zaI, zaf, zaw, Tryz.results27, zaB, zaC, zcq, zcr, frz, za7, frzS, fv, zaQ, za2, za3, frzObS, zay, zas, zbR, zb6, zb7, zbc])
/-- What rules.Check says. -/
def ChkS (text : W8) (members R : Int) : Prop :=
 (members < 1 ∨ 60 < members) ∧ R = 1 ∨ (1 ≤ members ∧ members ≤ 60) ∧ ((zdu text).2.2 ≠ 0 ∧ R = (zdu text).2.2 ∨ (zdu text).2.2 = 0 ∧ ((zeg (zdu text).1).2 ≠ 0 ∧ R = (zeg (zdu text).1).2 ∨
   (zeg (zdu text).1).2 = 0 ∧ zcX (zdu text).1 = true ∧ ∃ V C E, Df.SolveSpec (zk2 (zdu text).1) 5 V C E ∧ R = if E = 0 then 0 else 23))
theorem ChkS.one {text : W8} {m R R' : Int} (h : ChkS text m R) (h' : ChkS text m R') : R = R' := by
 rcases h with ⟨h1, rfl⟩ | ⟨h1, ⟨h2, rfl⟩ | ⟨h2, ⟨h3, rfl⟩ | ⟨h3, h6, V, C, E, h4, h5⟩⟩⟩ <;> rcases h' with ⟨g1, rfl⟩ | ⟨g1, ⟨g2, rfl⟩ | ⟨g2, ⟨g3, rfl⟩ | ⟨g3, g6, V', C', E', g4, g5⟩⟩⟩ <;> first | rfl | omega | skip
 ·obtain ⟨rfl, _⟩ := h4.one g4 (fun _ => Iff.rfl) rfl
  rw [h5, g5]
theorem zkf {b : By} (h : (zeg b).2 = 0) : zcX b = true := by
 cases hb : zcX b with
 | true => rfl
 | false => rw [zeg, if_pos hb] at h; cases h
theorem zem (text : W8) (members : Int) : ∃ R, ChkS text members R ∧ Fun Tryz.prog 19 [.u (.str text), .u (.int .i64 members)] (· = .u (.int .i64 R)) := by
 have hp := znc text
 unfold ChkS
 by_cases h1 : members < 1
 ·refine ⟨1, .inl ⟨.inl h1, rfl⟩, ?_⟩
  (refine Fun.of_body Tryz.func19 rfl (by simp) fun Γ hn => ?_); simp only [entry, ziC, ziN, maC, maN, oA, Tryz.ntmps19]
  repeat' (first
  | ((first | refine zag ?_ | refine zak ?_ | refine zah ?_ | refine zai ?_ | fail); simp [h1])
  | (refine zau ?_; simp only [zao])
  | fail)
  (refine EndOK.val (.inr rfl) ?_; simp [zaI, zaf, zaw, Tryz.results19])
 by_cases h2 : 60 < members
 ·refine ⟨1, .inl ⟨.inr h2, rfl⟩, ?_⟩
  (refine Fun.of_body Tryz.func19 rfl (by simp) fun Γ hn => ?_); simp only [entry, ziC, ziN, maC, maN, oA, Tryz.ntmps19]
  repeat' (first
  | ((first | refine zag ?_ | refine zak ?_ | refine zah ?_ | refine zai ?_ | fail); simp [h1, h2])
  | (refine zau ?_; simp only [zao])
  | fail)
  (refine EndOK.val (.inr rfl) ?_; simp [zaI, zaf, zaw, Tryz.results19])
 have hm : 1 ≤ members ∧ members ≤ 60 := by omega
 generalize zdu text = PB at *
 obtain ⟨b, pb, e⟩ := PB
 simp only at hp ⊢
 by_cases h3 : e = 0
 case neg =>
  refine ⟨e, .inr ⟨hm, .inl ⟨h3, rfl⟩⟩, ?_⟩
  unfold byD zbr at hp
  (refine Fun.of_body Tryz.func19 rfl (by simp) fun Γ hn => ?_); simp only [entry, ziC, ziN, maC, maN, oA, Tryz.ntmps19]
  repeat' (first
  | ((first | refine zag ?_ | refine zak ?_ | refine zah ?_ | refine zai ?_ | fail); simp [h1, h2, h3])
  | ((first | refine zau ?_ | refine zar ?_ | fail); simp only [zao])
  | (refine CallP.fE (hp) (by first | rfl | fail) (by first | simp [h1, h2, h3] <;> rfl | fail) ?_; (try simp [h1, h2, h3]))
  | fail)
  (refine EndOK.val (.inr rfl) ?_; simp [zaI, zaf, zaw, Tryz.results19])
 subst h3
 have hc := zmB b
 by_cases h4 : (zeg b).2 = 0
 case neg =>
  refine ⟨(zeg b).2, .inr ⟨hm, .inr ⟨rfl, .inl ⟨h4, rfl⟩⟩⟩, ?_⟩
  generalize zeg b = CP at *
  have hcc := hc
  clear hc
  unfold byD zbr at hp
  unfold zbr at hcc
  (refine Fun.of_body Tryz.func19 rfl (by simp) fun Γ hn => ?_); simp only [entry, ziC, ziN, maC, maN, oA, Tryz.ntmps19]
  repeat' (first
  | ((first | refine zag ?_ | refine zak ?_ | refine zah ?_ | refine zai ?_ | fail); simp [h1, h2, h4])
  | ((first | refine zau ?_ | refine zar ?_ | fail); simp only [zao])
  | (refine CallP.fE (hp) (by first | rfl | fail) (by first | simp [h1, h2, h4] <;> rfl | fail) ?_; (try simp [h1, h2, h4]))
  | (refine CallP.fE (hcc) (by first | rfl | fail) (by first | simp [h1, h2, h4] <;> rfl | fail) ?_; (try simp [h1, h2, h4]))
  | fail)
  (refine EndOK.val (.inr rfl) ?_; simp [zaI, zaf, zaw, Tryz.results19])
 have hr := zkf h4
 have hcal := zqV b
 have hrows := zpI b
 have hlen := zqU b
 have hmany := zpJ hr
 have hrng := zhd hrows
 obtain ⟨V, C, E, hS, hF⟩ := Df.solve_ex (zk2 b) 5 (by show (5 + 1) * (5 * (zk2 b).length) ≤ _; omega)
 refine ⟨if E = 0 then 0 else 23, .inr ⟨hm, .inr ⟨rfl, .inr ⟨h4, hr, V, C, E, hS, rfl⟩⟩⟩, ?_⟩
 have hcc := hc
 rw [h4] at hcc
 clear hS hc h4
 generalize (zeg b).1 = CW at hcc
 generalize zk2 b = L at *
 unfold byD zbr at hp
 unfold zbr at hcc hcal
 simp only [Df.consU, Df.ints] at hcal hF
 (refine Fun.of_body Tryz.func19 rfl (by simp) fun Γ hn => ?_); simp only [entry, ziC, ziN, maC, maN, oA, Tryz.ntmps19]
 repeat' (first
  | ((first | refine zag ?_ | refine zak ?_ | refine zah ?_ | refine zai ?_ | refine zaA ?_ | fail); simp [h1, h2])
  | (refine zar ?_; simp only [zao])
  | (refine CallP.fE (hp) (by first | rfl | fail) (by first | simp [h1, h2] <;> rfl | fail) ?_; (try simp [h1, h2]))
  | (refine CallP.fE (hcc) (by first | rfl | fail) (by first | simp [h1, h2] <;> rfl | fail) ?_; (try simp [h1, h2]))
  | (refine CallP.fE (hcal) (by first | rfl | fail) (by first | simp [h1, h2] <;> rfl | fail) ?_; (try simp [h1, h2]))
  | fail)
 refine zbS (α := { i : Nat // i ≤ L.length }) [10, 42, 43] (fun i => [(11, .u (.int .i64 (zhL (L.take i.1)))), (44, .u (.int .i64 i.1))]) (fun i => L.length - i.1) ⟨0, by omega⟩ ?_ ?_
 ·exact (Wk.env rfl rfl rfl (by simp [wkE, St.lp, zal, zaa, getK, zhL] <;> (try (intros; simp_all; done)) <;> (try (intros; omega)) <;> (try grind)))
 rintro ⟨i, hi⟩
 simp [St.lp, St.only, zal, zaa, getK]
 rcases hx : L[i]? with _ | c
 ·have hge : L.length ≤ i := by simpa using hx
  obtain rfl : i = L.length := by omega
  simp only [List.take_length, hmany]
  by_cases hE : E = 0
  ·rw [if_pos hE]
   repeat' (first
  | ((first | refine zag ?_ | refine zak ?_ | refine zah ?_ | refine zai ?_ | fail); simp [hx, hE])
  | ((first | refine zau ?_ | refine zar ?_ | fail); simp only [zao])
  | (refine za9 ?_; simp [zao])
  | (refine CallP.fE (hF) (by first | rfl | fail) (by first | simp [hx, hE] <;> rfl | fail) ?_; (try simp [hx, hE]))
  | fail)
   (refine EndOK.val (.inr rfl) ?_; simp [zaI, zaf, zaw, Tryz.results19])
  ·rw [if_neg hE]
   repeat' (first
  | ((first | refine zag ?_ | refine zak ?_ | refine zah ?_ | refine zai ?_ | fail); simp [hx, hE])
  | (refine zau ?_; simp only [zao])
  | (refine za9 ?_; simp [zao])
  | (refine CallP.fE (hF) (by first | rfl | fail) (by first | simp [hx, hE] <;> rfl | fail) ?_; (try simp [hx, hE]))
  | fail)
   (refine EndOK.val (.inr rfl) ?_; simp [zaI, zaf, zaw, Tryz.results19])
 ·have hlt : i < L.length := (lGE.1 hx).1
  obtain ⟨q1, q2, q3, q4⟩ := hrows c (List.mem_of_getElem? hx)
  have q5 := hrng i hi
  have hst := zid hx
  rw [zoZ] at hst
  generalize zhL (L.take i) = M at *
  repeat' (first
  | ((first | refine zag ?_ | refine zak ?_ | fail); simp [hx])
  | (refine ⟨by omega, ?_⟩)
  | ((first | refine zah ?_ | refine zat ?_ | fail); simp [hx])
  | (refine zar ?_; simp only [zao])
  | (refine ⟨?_, by omega⟩)
  | (intro hc <;> (try (exfalso; omega)))
  | fail)
  refine LoopW.next ⟨i + 1, by omega⟩ (by simp; omega) ?_
  exact (Wk.cut rfl (by simp [hn, St.lp]) (by simp [wkO, St.lp, zaa, getK, Ob.under, D.under, zad, zae, hst]) (by simp [wkU, St.lp, zal, zaa, getK, D.under, hst]) (by simp [wkE, St.lp, zal, zaa, getK, hst] <;> (try (intros; simp_all; done)) <;> (try (intros; omega)) <;> (try grind)))
end Go.Proofs.YtepiegcjnaohjaaGreatDoor
namespace Go.Proofs.YtepiegcjnaohjaaGreatDoor
open Go Go.VL
attribute [local simp] HS zc8 zb5 evPure opd uOf zaG St.put St.at getK binD binI binS binB nilD aggD zgN zhG lookD lookR zcF Go.VL.nextD zcH zhM zhH zfY zb4 mkV zbl zbf zbe zbd zc5 za8 zbt zbG mapEff zdl zfy Key.kk shiftI arith unD convD zdL loadD cellsAt fieldAddrD fieldD indexAddrD indexD sliceD cutD lenD minmaxD nilCheckD buildD fillD zbY zdg ze1 setAll zcV zeA zcw zht zct St.add zaM zbP rowsOf zdG zcK zan zac zaa zbi zcN zaK entry zbE zbI valD zb8 zcg zgC zds zdt zb1 zbK zaz zaX zbz delAll effD St.effS zc6 zbg zaZ zc7 zbh za1 zch za0 zaT zci zcW zbL zcc zbs zca zcb zaR mkD zbk zbC zbQ zaz zcv D.ids Op.operands Call.operands zbu makeIfD makeFuncD typeAssertD zhF zdy zdz zhE zcG IntKind.bits zb9 zaS List.take_of_length_le List.range_succ
attribute [local irreducible] V G H HD HD2 HD4 zoD RetX zao Eff CallP CallV EndOK Fun Ret FinOK LoopI LoopW EndW
theorem zpC : Fun Tryz.prog 19 [.u (.str zn2), .u (.int .i64 5)] (· = .u (.int .i64 0)) := by
 obtain ⟨R, hS, hF⟩ := zem zn2 5
 have hR : R = 0 := by
  unfold ChkS at hS
  rw [zjK, gv1] at hS
  rcases hS with ⟨h1, _⟩ | ⟨h1, ⟨h2, _⟩ | ⟨h2, ⟨h3, _⟩ | ⟨h3, h6, V, C, E, h4, rfl⟩⟩⟩
  ·omega
  ·exact absurd rfl h2
  ·exact absurd gv3 h3
  ·rw [if_pos (zlP h4 gv4 _ gv6)]
 rw [hR] at hF
 exact hF
theorem zpB : Fun Tryz.prog 19 [.u (.str zn2), .u (.int .i64 0)] (· = .u (.int .i64 1)) := by
 obtain ⟨R, hS, hF⟩ := zem zn2 0
 have hR : R = 1 := by
  rcases hS with ⟨_, rfl⟩ | ⟨h1, _⟩
  ·rfl
  ·omega
 rw [hR] at hF
 exact hF
theorem zqS : Fun Tryz.prog 19 [.u (.str [99, 105, 114, 99, 108, 101]), .u (.int .i64 5)] (· = .u (.int .i64 12)) := by
 obtain ⟨R, hS, hF⟩ := zem [99, 105, 114, 99, 108, 101] 5
 have hR : R = 12 := by
  unfold ChkS at hS
  rw [zjK, gv2] at hS
  rcases hS with ⟨h1, _⟩ | ⟨h1, ⟨h2, rfl⟩ | ⟨h2, _⟩⟩
  ·omega
  ·rfl
  ·cases h2
 rw [hR] at hF
 exact hF
def l4 : List Lw := [⟨5, 3, [97]⟩, ⟨6, 3, [98]⟩, ⟨8, 6, [99]⟩, ⟨9, 5, [100]⟩]
theorem zmZ : Fun Tryz.prog 11 [] (· = .u (.bool true)) := by
 have c1 := zfN 3 l4 (by decide)
 rw [show zck 3 l4 = 9 by rfl, show zgv 3 l4 = [1, 2] by rfl] at c1
 have c2 := zfN 3 [] (by decide)
 rw [show zck 3 [] = 3 by rfl, show zgv 3 [] = [] by rfl] at c2
 have c3 := zfR 3 l4 (by decide)
 rw [show zc2 3 l4 = [3, 5, 9] by rfl] at c3
 have c4 := Df.rsame_fun [3, 5, 9] [3, 5, 9] (by decide)
 have c5 := Df.rsame_fun [1, 2] [1, 2] (by decide)
 have c6 := zeH [120] 3 l4 (by decide)
 rw [show zgx [120] 3 l4 = [100] by rfl] at c6
 have c7 := zeH [120] 3 [] (by decide)
 rw [show zgx [120] 3 [] = [120] by rfl] at c7
 have c8 := zpC
 have c9 := zpB
 have c10 := zqS
 simp only [l4, zdY, ints, Df.ints, List.map_cons, List.map_nil, decide_true] at c1 c2 c3 c4 c5 c6 c7
 (refine Fun.of_bodyW Tryz.func11 rfl (by simp) fun Γ hn => ?_); simp only [entry, ziC, ziN, maC, maN, oA, Tryz.ntmps11]
 repeat' (first
  | ((first | refine zag ?_ | refine zak ?_ | refine zah ?_ | fail); simp)
  | fail)
 refine zji (Wk.frzN 1 _) ?_
 simp [frzN, frz1, zaC, zaB, St.frz, St.frzS, frzS, fv, zaQ, za2, za3, frzObS, zay, zas, del, frz, za7]
 repeat' (first
  | ((first | refine zag ?_ | refine zak ?_ | refine zah ?_ | fail); simp)
  | (refine zau ?_; simp only [zao])
  | (refine CallP.fE (c1) (by first | rfl | fail) (by first | (simp; done) | (simp; rfl) | fail) ?_; (try simp))
  | (refine CallP.fE (c2) (by first | rfl | fail) (by first | (simp; done) | (simp; rfl) | fail) ?_; (try simp))
  | (refine CallP.fE (c3) (by first | rfl | fail) (by first | (simp; done) | (simp; rfl) | fail) ?_; (try simp))
  | (refine CallP.fE (c4) (by first | rfl | fail) (by first | (simp; done) | (simp; rfl) | fail) ?_; (try simp))
  | (refine CallP.fE (c5) (by first | rfl | fail) (by first | (simp; done) | (simp; rfl) | fail) ?_; (try simp))
  | (refine CallP.fE (c6) (by first | rfl | fail) (by first | (simp; done) | (simp; rfl) | fail) ?_; (try simp))
  | (refine CallP.fE (c7) (by first | rfl | fail) (by first | (simp; done) | (simp; rfl) | fail) ?_; (try simp))
  | (refine CallP.fE (c8) (by first | rfl | fail) (by first | (simp; done) | (simp; rfl) | fail) ?_; (try simp))
  | (refine CallP.fE (c9) (by first | rfl | fail) (by first | (simp; done) | (simp; rfl) | fail) ?_; (try simp))
  | (refine CallP.fE (c10) (by first | rfl | fail) (by first | (simp; done) | (simp; rfl) | fail) ?_; (try simp))
  | fail)
 refine EndW.here ?_
 (refine EndOK.val (.inr rfl) ?_; simp [zaI, zaf, zaw, Tryz.results11])
theorem zqi (l : List Lw) (n : Int) (h0 : 0 ≤ n) (hn1 : n ≤ 1000) : ∃ B : Bool, (B = true → (l.length : Int) ≤ n) ∧ Fun Tryz.prog 13 [.u (zdY l), .u (.int .i64 n)] (· = .u (.bool B)) := by
 obtain ⟨B, hB⟩ : ∃ B : Bool, B = zkT l n := ⟨_, rfl⟩
 refine ⟨B, fun h => (zn9 (hB ▸ h)).1, ?_⟩
 unfold zdY
 (refine Fun.of_body Tryz.func13 rfl (by simp) fun Γ hn => ?_); simp only [entry, ziC, ziN, maC, maN, oA, Tryz.ntmps13]
 refine zgD (x := 0) rfl fun hll => ?_
 simp at hll
 repeat' (first
  | ((first | refine zag ?_ | refine zak ?_ | refine zah ?_ | refine zaA ?_ | fail); simp)
  | fail)
 refine zbS (α := { i : Nat // i ≤ l.length ∧ (i : Int) ≤ n + 1 ∧ ∀ x ∈ l.take i, x.text.length ≤ 500 }) [0, 1] (fun i => [(5, .u (.int .i64 i.1))]) (fun i => l.length - i.1) ⟨0, by omega, by omega, by simp⟩ ?_ ?_
 ·exact (Wk.env rfl rfl rfl (by simp [wkE, St.lp, zal, zaa, getK] <;> (try (intros; simp_all; done)) <;> (try (intros; omega)) <;> (try grind)))
 rintro ⟨i, hi, hin, hb⟩
 simp [St.lp, St.only, zal, zaa, getK]
 rcases hx : l[i]? with _ | x
 ·have hge : l.length ≤ i := by simpa using hx
  obtain rfl : i = l.length := by omega
  rw [List.take_length] at hb
  by_cases hle : (l.length : Int) ≤ n
  ·have e : B = true := by rw [hB]; simp [zkT, hle]; exact hb
   rw [e]
   repeat' (first
  | ((first | refine zag ?_ | refine zak ?_ | refine zah ?_ | refine zai ?_ | fail); simp [hx, hle])
  | (refine zau ?_; simp only [zao])
  | (refine za9 ?_; simp [zao])
  | fail)
   (refine EndOK.val (.inr rfl) ?_; simp [zaI, zaf, zaw, Tryz.results13])
  ·have e : B = false := by rw [hB]; simp [zkT]; intro h; omega
   rw [e]
   repeat' (first
  | ((first | refine zag ?_ | refine zak ?_ | refine zah ?_ | refine zai ?_ | fail); simp [hx, hle])
  | (refine zau ?_; simp only [zao])
  | (refine za9 ?_; simp [zao])
  | fail)
   (refine EndOK.val (.inr rfl) ?_; simp [zaI, zaf, zaw, Tryz.results13])
 ·have hlt : i < l.length := (lGE.1 hx).1
  have hlt2 : (i : Int) < l.length := by omega
  by_cases hin2 : (i : Int) ≤ n
  ·by_cases hlx : 500 < x.text.length
   ·have hlx' : (500 : Int) < x.text.length := by omega
    have e : B = false := by
     rw [hB, zkT, Bool.and_eq_false_iff]
     right
     rw [List.all_eq_false]
     exact ⟨x, List.mem_of_getElem? hx, by simp; omega⟩
    rw [e]
    repeat' (first
  | ((first | refine zag ?_ | refine zak ?_ | refine zah ?_ | refine zai ?_ | fail); simp [hx, hlt2, hin2, hlx'])
  | ((first | refine zau ?_ | refine zar ?_ | fail); simp only [zao])
  | fail)
    (refine EndOK.val (.inr rfl) ?_; simp [zaI, zaf, zaw, Tryz.results13])
   ·have hlx' : ¬ (500 : Int) < x.text.length := by omega
    repeat' (first
  | ((first | refine zag ?_ | refine zak ?_ | fail); simp [hx, hlt2, hin2, hlx'])
  | (refine ⟨by omega, ?_⟩)
  | ((first | refine zah ?_ | refine zai ?_ | refine zat ?_ | fail); simp [hx, hlt2, hin2, hlx'])
  | (refine zar ?_; simp only [zao])
  | fail)
    refine LoopW.next ⟨i + 1, by omega, by omega, fun y hy => ?_⟩ (by simp; omega) ?_
    ·rw [List.take_succ, hx] at hy
     rcases List.mem_append.1 hy with h | h
     ·exact hb y h
     ·simp at h; subst h; omega
    exact (Wk.env rfl rfl rfl (by simp [wkE, St.lp, zal, zaa, getK] <;> (try (intros; simp_all; done)) <;> (try (intros; omega)) <;> (try grind)))
  ·have hle : ¬ (l.length : Int) ≤ n := by omega
   have e : B = false := by rw [hB]; simp [zkT]; intro h; omega
   rw [e]
   repeat' (first
  | ((first | refine zag ?_ | refine zak ?_ | refine zah ?_ | refine zai ?_ | fail); simp [hx, hlt2, hin2, hle])
  | (refine zau ?_; simp only [zao])
  | (refine za9 ?_; simp [zao])
  | fail)
   (refine EndOK.val (.inr rfl) ?_; simp [zaI, zaf, zaw, Tryz.results13])
theorem zm1 (s : List UInt8) (f : Int) (a b : List Lw) : Fun Tryz.prog 5 [.u (.str s), .u (.int .i64 f), .u (zdY a), .u (zdY b)] (· = .u (.bool true)) := by
 obtain ⟨A, hA1, hA⟩ := zqi a 20 (by omega) (by omega)
 obtain ⟨B, hB1, hB⟩ := zqi b 20 (by omega) (by omega)
 have hs := zmZ
 cases A with
 | false =>
  unfold zdY at hA ⊢
  (refine Fun.of_bodyW Tryz.func5 rfl (by simp) fun Γ hn => ?_); simp only [entry, ziC, ziN, maC, maN, oA, Tryz.ntmps5]
  repeat' (first
  | ((first | refine zag ?_ | refine zak ?_ | refine zah ?_ | refine zai ?_ | fail); simp)
  | (refine zau ?_; simp only [zao])
  | (refine CallP.fE (hs) (by first | rfl | fail) (by first | (simp; done) | (simp; rfl) | fail) ?_; (try simp))
  | (refine CallP.fE (hA) (by first | rfl | fail) (by first | (simp; done) | (simp; rfl) | fail) ?_; (try simp))
  | fail)
  refine EndW.here ?_
  (refine EndOK.val (.inr rfl) ?_; simp [zaI, zaf, zaw, Tryz.results5])
 | true =>
  cases B with
  | false =>
   unfold zdY at hA hB ⊢
   (refine Fun.of_bodyW Tryz.func5 rfl (by simp) fun Γ hn => ?_); simp only [entry, ziC, ziN, maC, maN, oA, Tryz.ntmps5]
   repeat' (first
  | ((first | refine zag ?_ | refine zak ?_ | refine zah ?_ | refine zai ?_ | fail); simp)
  | (refine zau ?_; simp only [zao])
  | (refine CallP.fE (hs) (by first | rfl | fail) (by first | (simp; done) | (simp; rfl) | fail) ?_; (try simp))
  | (refine CallP.fE (hA) (by first | rfl | fail) (by first | (simp; done) | (simp; rfl) | fail) ?_; (try simp))
  | (refine CallP.fE (hB) (by first | rfl | fail) (by first | (simp; done) | (simp; rfl) | fail) ?_; (try simp))
  | fail)
   refine EndW.here ?_
   (refine EndOK.val (.inr rfl) ?_; simp [zaI, zaf, zaw, Tryz.results5])
  | true =>
   by_cases hlen : 500 < s.length
   ·have hlen2 : (500 : Int) < s.length := by omega
    unfold zdY at hA hB ⊢
    (refine Fun.of_bodyW Tryz.func5 rfl (by simp) fun Γ hn => ?_); simp only [entry, ziC, ziN, maC, maN, oA, Tryz.ntmps5]
    repeat' (first
  | ((first | refine zag ?_ | refine zak ?_ | refine zah ?_ | refine zai ?_ | fail); simp [hlen2])
  | (refine zau ?_; simp only [zao])
  | (refine CallP.fE (hs) (by first | rfl | fail) (by first | simp [hlen2] <;> rfl | fail) ?_; (try simp [hlen2]))
  | (refine CallP.fE (hA) (by first | rfl | fail) (by first | simp [hlen2] <;> rfl | fail) ?_; (try simp [hlen2]))
  | (refine CallP.fE (hB) (by first | rfl | fail) (by first | simp [hlen2] <;> rfl | fail) ?_; (try simp [hlen2]))
  | fail)
    refine EndW.here ?_
    (refine EndOK.val (.inr rfl) ?_; simp [zaI, zaf, zaw, Tryz.results5])
   have hlen2 : ¬ (500 : Int) < s.length := by omega
   have ha20 : a.length ≤ 20 := by have := hA1 rfl; omega
   have hb20 : b.length ≤ 20 := by have := hB1 rfl; omega
   have c1 := zfR f a (by omega)
   have c2 := zfN f a (by omega)
   have c3 := zfR (zck f a) b (by omega)
   have c4 := zfR f (a ++ b) (by simp; omega)
   have c5 := Df.rsame_fun (zc2 f (a ++ b)) (zc2 f a ++ zhP (zck f a) b) (by have := zgi f (a ++ b); simp at this; omega)
   rw [decide_eq_true (zg1 f a b)] at c5
   have c6 := zfN (zck f a) b (by omega)
   have c7 := zeH s f (a ++ b) (by simp; omega)
   have c8 := zeH s f a (by omega)
   have c9 := zeH (zgx s f a) (zck f a) b (by omega)
   rw [← zlT] at c9
   have n0 : zc2 f (a ++ b) = zc2 f a ++ zhP (zck f a) b := zg1 f a b
   have n1 := zgi f a
   have n2 := zgi (zck f a) b
   have n3 := zkg f a
   have n4 := zix (zck f a) b
   have n5 : zc2 (zck f a) b = zck f a :: zhP (zck f a) b := rfl
   have n6 : (∀ x ∈ b, x.base ≠ zck f a) → (zgv (zck f a) b).length = b.length := zlS
   rw [n0] at c4 c5
   rw [n5] at c3
   have n7 : (zhP (zck f a) b).length ≤ 20 := by rw [n5] at n2; simp at n2; omega
   have n8 : (zc2 f a).length ≤ 21 := by omega
   have n9 : zc2 f a ≠ [] := fun e => by rw [e] at n3; simp at n3
   have n10 : ¬ ((zc2 f a).length : Int) < 1 := by omega
   clear n5 n0 n1 n2 n3
   generalize zc2 f a = CA at *
   generalize zhP (zck f a) b = GB at *
   generalize zgv f a = VA at *
   generalize zgv (zck f a) b = VB at *
   generalize zgv f (a ++ b) = VAB at *
   generalize zgx s f (a ++ b) = TAB at *
   generalize zgx s f a = TA at *
   generalize zck (zck f a) b = FAB at *
   generalize zck f a = FA at *
   simp only [ints, Df.ints, zdY, List.map_append, List.map_cons] at *
   (refine Fun.of_bodyW Tryz.func5 rfl (by simp) fun Γ hn => ?_); simp only [entry, ziC, ziN, maC, maN, oA, Tryz.ntmps5]
   repeat' (first
  | ((first | refine zag ?_ | refine zak ?_ | fail); simp [hlen2])
  | (refine ⟨by omega, ?_⟩)
  | ((first | refine zah ?_ | refine zai ?_ | fail); simp [hlen2])
  | (refine zar ?_; simp only [zao])
  | (refine CallP.fE (hs) (by first | rfl | fail) (by first | simp [hlen2] <;> rfl | fail) ?_; (try simp [hlen2]))
  | (refine CallP.fE (hA) (by first | rfl | fail) (by first | simp [hlen2] <;> rfl | fail) ?_; (try simp [hlen2]))
  | (refine CallP.fE (hB) (by first | rfl | fail) (by first | simp [hlen2] <;> rfl | fail) ?_; (try simp [hlen2]))
  | fail)
   have hap : rowsD (a.map fun x => [U.int .i64 x.mark, .int .i64 x.base, .str x.text]) ++ rowsD (b.map fun x => [U.int .i64 x.mark, .int .i64 x.base, .str x.text]) = zqE (a ++ b) := by simp [rowsD, zqE, Function.comp_def]
   refine zji (Wk.frzN 3 _) ?_
   simp [frzN, frz1, zaC, zaB, St.frz, St.frzS, frzS, fv, zaQ, za2, za3, frzObS, zay, zas, del, frz, za7, hap, zpc, zpb]
   repeat' (first
  | ((first | refine zag ?_ | refine zb0 rfl ?_ | refine zdi rfl ?_ | refine zak ?_ | fail); simp [n10])
  | (refine ⟨by omega, ?_⟩)
  | ((first | refine zah ?_ | refine zai ?_ | fail); simp [n10])
  | (refine zcM (hC _ (by kernel_rfl)) (hk _ ?_); clear hC hk C k; simp only [zao])
  | (refine zbZ rfl (by kernel_rfl) (by first | (simp [hn]; done) | (simp [hn]; omega) | fail) fun C k hC hk => ?_; simp [n10])
  | (refine zaA ?_; simp [n10])
  | (refine zar ?_; simp only [zao])
  | (intro hc <;> (try (exfalso; omega)))
  | (refine CallP.fE (c1) (by first | rfl | fail) (by first | simp [n10] <;> rfl | fail) ?_; (try simp [n10]))
  | (refine CallP.fE (c2) (by first | rfl | fail) (by first | simp [n10] <;> rfl | fail) ?_; (try simp [n10]))
  | (refine CallP.fE (c3) (by first | rfl | fail) (by first | simp [n10] <;> rfl | fail) ?_; (try simp [n10]))
  | (refine CallV.fun_ (c4) (by first | rfl | fail) (by first | simp [n10] <;> rfl | fail) ?_ <;> (try simp [n10]))
  | (refine CallV.fun_ (c5) (by first | rfl | fail) (by first | simp [n10] <;> rfl | fail) ?_ <;> (try simp [n10]))
  | fail)
   refine zbS (α := { x : Nat × Bool // x.1 ≤ b.length ∧ (x.2 = false → ∀ y ∈ b.take x.1, y.base ≠ FA) }) [0, 1, 2, 3, 9, 10, 12] (fun x => [(15, .u (.bool x.1.2)), (16, .u (.int .i64 x.1.1))]) (fun x => b.length - x.1.1) ⟨(0, false), by omega, by simp⟩ ?_ ?_
   ·exact (Wk.env rfl rfl rfl (by simp [wkE, St.lp, zal, zaa, getK] <;> (try (intros; simp_all; done)) <;> (try (intros; omega)) <;> (try grind)))
   rintro ⟨⟨i, K⟩, hi, hb⟩
   simp only at hi hb
   simp [St.lp, St.only, zal, zaa, getK]
   rcases hx : b[i]? with _ | x
   ·have hge : b.length ≤ i := by simpa using hx
    obtain rfl : i = b.length := by omega
    rw [List.take_length] at hb
    cases K with
    | false =>
     have hvl := n6 (hb rfl)
     repeat' (first
  | ((first | refine zag ?_ | refine zak ?_ | refine zah ?_ | refine zai ?_ | fail); simp [hx, hvl])
  | (refine zau ?_; simp only [zao])
  | (refine za9 ?_; simp [zao])
  | (refine CallP.fE (c6) (by first | rfl | fail) (by first | simp [hx, hvl] <;> rfl | fail) ?_; (try simp [hx, hvl]))
  | (refine CallP.fE (c7) (by first | rfl | fail) (by first | simp [hx, hvl] <;> rfl | fail) ?_; (try simp [hx, hvl]))
  | (refine CallP.fE (c9) (by first | rfl | fail) (by first | simp [hx, hvl] <;> rfl | fail) ?_; (try simp [hx, hvl]))
  | (refine CallP.fE (c8) (by first | rfl | fail) (by first | simp [hx, hvl] <;> rfl | fail) ?_; (try simp [hx, hvl]))
  | fail)
     refine EndW.here ?_
     (refine EndOK.val (.inr rfl) ?_; simp [zaI, zaf, zaw, Tryz.results5])
    | true =>
     repeat' (first
  | ((first | refine zag ?_ | refine zak ?_ | refine zah ?_ | refine zai ?_ | fail); simp [hx])
  | (refine zau ?_; simp only [zao])
  | (refine za9 ?_; simp [zao])
  | (refine CallP.fE (c6) (by first | rfl | fail) (by first | simp [hx] <;> rfl | fail) ?_; (try simp [hx]))
  | (refine CallP.fE (c7) (by first | rfl | fail) (by first | simp [hx] <;> rfl | fail) ?_; (try simp [hx]))
  | (refine CallP.fE (c9) (by first | rfl | fail) (by first | simp [hx] <;> rfl | fail) ?_; (try simp [hx]))
  | (refine CallP.fE (c8) (by first | rfl | fail) (by first | simp [hx] <;> rfl | fail) ?_; (try simp [hx]))
  | fail)
     refine EndW.here ?_
     (refine EndOK.val (.inr rfl) ?_; simp [zaI, zaf, zaw, Tryz.results5])
   ·have hlt : i < b.length := (lGE.1 hx).1
    have hlt2 : (i : Int) < b.length := by omega
    cases K with
    | true =>
     repeat' (first
  | ((first | refine zag ?_ | refine zak ?_ | fail); simp [hx, hlt2])
  | (refine ⟨by omega, ?_⟩)
  | ((first | refine zah ?_ | refine zai ?_ | refine zat ?_ | fail); simp [hx, hlt2])
  | (refine zar ?_; simp only [zao])
  | fail)
     refine LoopW.next ⟨(i + 1, true), by simp; omega, by simp⟩ (by simp; omega) ?_
     exact (Wk.env rfl rfl rfl (by simp [wkE, St.lp, zal, zaa, getK] <;> (try (intros; simp_all; done)) <;> (try (intros; omega)) <;> (try grind)))
    | false =>
     by_cases he : x.base = FA
     ·repeat' (first
  | ((first | refine zag ?_ | refine zak ?_ | fail); simp [hx, hlt2, he])
  | (refine ⟨by omega, ?_⟩)
  | ((first | refine zah ?_ | refine zai ?_ | refine zat ?_ | fail); simp [hx, hlt2, he])
  | (refine zar ?_; simp only [zao])
  | fail)
      refine LoopW.next ⟨(i + 1, true), by simp; omega, by simp⟩ (by simp; omega) ?_
      exact (Wk.env rfl rfl rfl (by simp [wkE, St.lp, zal, zaa, getK] <;> (try (intros; simp_all; done)) <;> (try (intros; omega)) <;> (try grind)))
     ·repeat' (first
  | ((first | refine zag ?_ | refine zak ?_ | fail); simp [hx, hlt2, he])
  | (refine ⟨by omega, ?_⟩)
  | ((first | refine zah ?_ | refine zai ?_ | refine zat ?_ | fail); simp [hx, hlt2, he])
  | (refine zar ?_; simp only [zao])
  | fail)
      refine LoopW.next ⟨(i + 1, false), by simp; omega, fun _ y hy => ?_⟩ (by simp; omega) ?_
      ·rw [List.take_succ, hx] at hy
       rcases List.mem_append.1 hy with h | h
       ·exact hb rfl y h
       ·simp at h; subst h; exact he
      exact (Wk.env rfl rfl rfl (by simp [wkE, St.lp, zal, zaa, getK] <;> (try (intros; simp_all; done)) <;> (try (intros; omega)) <;> (try grind)))
end Go.Proofs.YtepiegcjnaohjaaGreatDoor
