/- Texts joined by a program of mine: Es Za Zb Zc Zd Ze#p Yu Qe#p Ze Qb Qe Qd. -/
import Derived.Test.YtepiegcjnaohjaaGreatDoorL6
set_option linter.all false
set_option maxRecDepth 100000
set_option maxHeartbeats 8000000
namespace Go.Proofs.YtepiegcjnaohjaaGreatDoor
open Go Go.VL
attribute [local simp] HS zc7 zb5 evPure opd uOf zaG St.put St.at getK binD binI binS binB nilD aggD zgO zhJ lookD lookR zcE Go.VL.nextD zcG zhP zhK zf0 zb4 mkV zbl zbf zbe zbd zc4 za9 zbt zbG mapEff zdk zfz Key.kk shiftI arith unD convD zdN loadD cellsAt fieldAddrD fieldD indexAddrD indexD sliceD cutD lenD minmaxD nilCheckD buildD fillD zb1 zdf ze2 setAll zcU zeF zcv zhx zcs St.add zaM zbP rowsOf zdH zcJ zam zac zaa zbi zcL zaK entry zbE zbI valD zb8 zcf zgD zdr zds zb2 zbK zaz zaX zbz delAll effD St.effS zc5 zbg zaZ zc6 zbh za1 zch za0 zaS zci zcV zbL zcb zbs zb9 zca zaR mkD zbk zbC zbQ zaz zcu D.ids Op.operands Call.operands zbu makeIfD makeFuncD typeAssertD zhI zdy zdz zhH zcF IntKind.bits zcO List.take_of_length_le List.range_succ
attribute [local irreducible] V G H HD HD2 HD4 zoK RetX zao Eff CallP CallV EndOK Fun Ret FinOK LoopI LoopW EndW
theorem znE {s : List UInt8} : ∀ (f p : Nat) (l : List Tok), znF f s p = .ok l → s.length < p + f → p ≤ s.length →
  (∀ (i : Nat) (t : Tok), l[i]? = some t → t.kind ≠ 0 → i + 1 < l.length) ∧ l.length ≤ s.length - p + 1 ∧ 0 < l.length
 | 0, p, l, _, h2, h3 => by omega
 | f + 1, p, l, h, h2, h3 => by
  rw [znF] at h
  have hle := zdO zcc (s.drop p)
  rw [List.length_drop] at hle
  split at h
  ·cases h
   refine ⟨fun i t hi hk => ?_, by simp, by simp⟩
   rcases i with _ | i
   ·simp at hi
    subst hi
    exact absurd rfl hk
   ·simp at hi
  ·rename_i c r hd
   have hdl : (s.drop (p + zcI zcc (s.drop p))).length = r.length + 1 := by rw [hd]; rfl
   rw [List.length_drop] at hdl
   split at h
   ·cases h
   ·rename_i t ht
    obtain ⟨ht1, ht2⟩ := zf9 ht
    simp only [List.length_cons] at ht2
    split at h
    ·cases h
    ·rename_i l' hl'
     cases h
     obtain ⟨g1, g2, g3⟩ := znE f _ l' hl' (by omega) (by omega)
     refine ⟨fun i t' hi hk => ?_, by simp only [List.length_cons]; omega, by simp⟩
     rcases i with _ | i
     ·simp; exact g3
     ·simp only [List.getElem?_cons_succ] at hi
      have := g1 i t' hi hk
      simp only [List.length_cons]
      omega
theorem zqL {s : List UInt8} {l : List Tok} (h : zmM s = .ok l) : TokOK l ∧ l.length ≤ 2001 ∧ 0 < l.length := by
 unfold zmM at h
 split at h
 ·cases h
 ·obtain ⟨g1, g2, g3⟩ := znE _ _ _ h (by omega) (by omega)
  exact ⟨⟨g1, by omega⟩, by omega, g3⟩
theorem Exp.zks {op n u : Int} {s : List UInt8} {args : List Exp} {B : Int} (h : ∀ x ∈ args, x.lev ≤ B) (h0 : 0 ≤ B) : (Exp.mk op n u s args).lev ≤ B + 1 := by
 rw [Exp.zhG]
 simp only [Exp.args]
 have : ∀ (l : List Int) (a : Int), a ≤ B → (∀ x ∈ l, x ≤ B) → l.foldl max a ≤ B := by
  intro l
  induction l with
  | nil => intro a ha _; exact ha
  | cons b l ih => intro a ha hl; exact ih _ (by have := hl b (by simp); omega) fun x hx => hl x (by simp [hx])
 have := this (args.map Exp.lev) 0 h0 (fun x hx => by obtain ⟨y, hy, rfl⟩ := List.mem_map.1 hx; exact h y hy)
 omega
theorem zjJ {l : List Tok} : ∀ (f : Nat),
  (∀ p form e q, zez l f p form = .ok e q → e.lev ≤ f * f + 1) ∧
  (∀ form e own p e' q, zfi l f form e own p = .ok e' q → e'.lev ≤ max e.lev (f * f + 1) + f) ∧
  (∀ p form e q, zbM l f p form = .ok e q → e.1.lev ≤ f * f + 1) ∧
  (∀ p e q, zba l f p = .ok e q → e.lev ≤ f * f + 1)
 | 0 => ⟨fun _ _ _ _ h => by simp [zez] at h, fun _ _ _ _ _ _ h => by simp [zfi] at h, fun _ _ _ _ h => by simp [zbM] at h, fun _ _ _ h => by simp [zba] at h⟩
 | f + 1 => by
  obtain ⟨he, hlo, hpr, hpm⟩ := zjJ f
  have hsq : ((f + 1 : Nat) : Int) * ((f + 1 : Nat) : Int) = (f : Int) * f + 2 * f + 1 := by
   rw [show ((f + 1 : Nat) : Int) = (f : Int) + 1 by omega, Int.add_mul, Int.mul_add]; omega
  rw [hsq]
  have h0 : (0 : Int) ≤ (f : Int) * f := Int.mul_nonneg (by omega) (by omega)
  generalize hF : (f : Int) * f = F at *
  refine ⟨fun p form e q h => ?_, fun form e own p e' q h => ?_, fun p form e q h => ?_, fun p e q h => ?_⟩
  ·rw [zez] at h
   obtain ⟨a, r, h1, h2⟩ := PR.zaH h
   have g1 := hpr _ _ _ _ h1
   have g2 := hlo _ _ _ _ _ _ h2
   omega
  ·rw [zfi] at h
   split at h
   ·cases h; omega
   ·split at h
    ·cases h; omega
    ·obtain ⟨a, r, h1, h2⟩ := PR.zaH h
     have g1 := he _ _ _ _ h1
     have g2 := hlo _ _ _ _ _ _ h2
     rename_i x _ _
     have g3 := Exp.zks (op := x.op) (n := 0) (u := 0) (s := []) (args := [e, a]) (B := max e.lev (F + 1)) (by
      intro y hy
      simp only [List.mem_cons, List.not_mem_nil, or_false] at hy
      rcases hy with rfl | rfl <;> omega) (by omega)
     omega
  ·rw [zbM] at h
   split at h
   ·obtain ⟨a, r, h1, h⟩ := PR.zaH h
    obtain ⟨_, r2, h2, h⟩ := PR.zaH h
    obtain ⟨b, r3, h3, h⟩ := PR.zaH h
    obtain ⟨_, r4, h4, h⟩ := PR.zaH h
    obtain ⟨c, r5, h5, h⟩ := PR.zaH h
    cases h
    have g1 := he _ _ _ _ h1
    have g3 := he _ _ _ _ h3
    have g5 := he _ _ _ _ h5
    have := Exp.zks (op := 13) (n := 0) (u := 0) (s := []) (args := [a, b, c]) (B := F + 1) (by
     intro y hy
     simp only [List.mem_cons, List.not_mem_nil, or_false] at hy
     rcases hy with rfl | rfl | rfl <;> omega) (by omega)
    simp only
    omega
   ·split at h
    ·obtain ⟨a, r, h1, h⟩ := PR.zaH h
     cases h
     have g1 := he _ _ _ _ h1
     have := Exp.zks (op := 12) (n := 0) (u := 0) (s := []) (args := [a]) (B := F + 1) (by
      intro y hy
      simp only [List.mem_cons, List.not_mem_nil, or_false] at hy
      rcases hy with rfl; omega) (by omega)
     simp only
     omega
    ·obtain ⟨a, r, h1, h⟩ := PR.zaH h
     cases h
     have g1 := hpm _ _ _ h1
     simp only
     omega
  ·have leaf : ∀ (op n u : Int) (s : List UInt8), (Exp.mk op n u s []).lev ≤ F + 2 * f + 1 + 1 := fun op n u s => by
    have := Exp.zks (op := op) (n := n) (u := u) (s := s) (args := []) (B := 0) (by simp) (by omega)
    omega
   rw [zba] at h
   split at h
   ·cases h
   ·split at h
    ·obtain ⟨a, r, h1, h⟩ := PR.zaH h
     cases h; exact leaf ..
    split at h
    ·cases h; exact leaf ..
    split at h
    ·cases h; exact leaf ..
    split at h
    ·obtain ⟨_, r2, h2, h⟩ := PR.zaH h
     obtain ⟨a, r3, h3, h⟩ := PR.zaH h
     obtain ⟨_, r4, h4, h⟩ := PR.zaH h
     obtain ⟨b, r5, h5, h⟩ := PR.zaH h
     obtain ⟨_, r6, h6, h⟩ := PR.zaH h
     have g3 := he _ _ _ _ h3
     have g5 := he _ _ _ _ h5
     have := Exp.zks (op := if isB l p [109, 97, 120] = true then 7 else 6) (n := 0) (u := 0) (s := []) (args := [a, b]) (B := F + 1) (by
      intro y hy
      simp only [List.mem_cons, List.not_mem_nil, or_false] at hy
      rcases hy with rfl | rfl <;> omega) (by omega)
     cases h
     omega
    split at h
    ·obtain ⟨a, r3, h3, h⟩ := PR.zaH h
     obtain ⟨_, r4, h4, h⟩ := PR.zaH h
     cases h
     have g3 := he _ _ _ _ h3
     omega
    split at h
    ·cases h; exact leaf ..
    ·cases h
def zrS (l : List Tok) (p : Nat) : Int := match l[p]? with | some t => t.kind | none => 0
def zgU : Exp := .mk 0 0 0 [] []
theorem zl6 (l : List Tok) (p : Nat) (a b : Int) (i nx : Nat) (hi : i < nx) (hp : p < l.length) (hl : TokOK l) :
  RetX Tryz.prog 201 [.ptr i 0, ziZ a, ziZ b] [(i, pOb l p)] nx (PPost l i nx ziZ (zrB l p a b)) := by
 have hne := zaU hi
 obtain ⟨t, ht⟩ : ∃ t, l[p]? = some t := ⟨_, List.getElem?_eq_getElem hp⟩
 have hnx := zcj l p t ht hl.len
 have hll := hl.len
 have hc1 := fun e nx' (h : nx ≤ nx') => zff l p e i nx' (by omega)
 have hc2 := fun e nx' (h : nx ≤ nx') => zdM l p t e i nx' (by omega) ht hl.len
 rw [zrB, ht]
 by_cases hk2 : t.kind = 2
 ·simp only [hk2, if_true]
  by_cases h1 : a ≤ t.n
  ·by_cases h2 : t.n ≤ b
   ·simp only [h1, h2, and_self, if_true]
    (refine RetX.of_bodyW Tryz.func201 rfl (by simp) fun Γ hn hpan => ?_); simp only [entry, ziC, ziN, maC, maN, oA, Tryz.ntmps201]
    repeat' (first
  | ((first | refine zag ?_ | refine zak ?_ | fail); simp [hne, hk2, h1, h2, del])
  | (refine ⟨by omega, ?_⟩)
  | (refine zah ?_; simp [hne, hk2, h1, h2, del])
  | (refine zau ?_; simp only [zao])
  | (refine CallP.fE (hnx) (by first | rfl | fail) (by first | simp [hne, hk2, h1, h2, del] <;> rfl | fail) ?_; (try simp [hne, hk2, h1, h2, del]))
  | (refine CallP.ok1 (hc1 _ _ (by first | omega | simp <;> omega | fail)) (by first | (simp [hne, hk2, h1, h2, del, zaa, getK, zab, zac]; done) | fail) (by rfl) (by rfl) ?_; (try simp [hne, hk2, h1, h2, del]))
  | fail)
    (refine EndW.here ?_; (first | (refine EndOK.fin (.inr rfl) ?_) | (refine EndOK.fin (.inl rfl) ?_)); simp [zaI, zaf, Tryz.results201, hne, hi]; refine FinOK.cut [(i, pOb l (p + 1))] (nx) (by simp [zaa, getK, zab, zac, Ob.under, D.under, zad, zae, hne, hi] <;> omega) (by simp [D.under]) (by simp [hn]) ?_; try simp)
    exact PPost.zcD rfl rfl rfl
   ·simp only [h1, h2, and_false, if_false]
    (refine RetX.of_bodyW Tryz.func201 rfl (by simp) fun Γ hn hpan => ?_); simp only [entry, ziC, ziN, maC, maN, oA, Tryz.ntmps201]
    repeat' (first
  | ((first | refine zag ?_ | refine zak ?_ | refine zah ?_ | fail); simp [hne, hk2, h1, h2, del])
  | (refine CallP.fE (hnx) (by first | rfl | fail) (by first | simp [hne, hk2, h1, h2, del] <;> rfl | fail) ?_; (try simp [hne, hk2, h1, h2, del]))
  | (refine CallP.ok1 (hc1 _ _ (by first | omega | simp <;> omega | fail)) (by first | (simp [hne, hk2, h1, h2, del, zaa, getK, zab, zac]; done) | fail) (by rfl) (by rfl) ?_; (try simp [hne, hk2, h1, h2, del]))
  | (refine CallP.zeA (hc2 _ _ (by first | omega | simp <;> omega | fail)) (by first | (simp [hne, hk2, h1, h2, del, zaa, getK, zab, zac]; done) | fail) (by rfl) (by first | assumption | (simp; done) | fail) (by rfl) (by simp) ?_; rintro ob' ⟨q', rfl⟩; refine ⟨_, Wk.refl _, ?_⟩)
  | fail)
    (refine hpan _ _ ⟨{ n := _, env := [], obs := [(i, pOb l q')], next := nx }, (Wk.cut rfl (by simp [hn]) (by simp [wkO, zaa, getK, zab, zac, Ob.under, D.under, zad, zae, hi, hne, zab, zac, zaa, getK]) (by simp [wkU, zal, zaa, getK, D.under, hi, hne, zab, zac, zaa, getK]) (by simp [wkE, zal, zaa, getK, hi, hne, zab, zac, zaa, getK])), by simp [hn], ?_⟩; try simp)
    exact PPost.zaD (by simp [PR.bind, *])
  ·simp only [h1, false_and, if_false]
   (refine RetX.of_bodyW Tryz.func201 rfl (by simp) fun Γ hn hpan => ?_); simp only [entry, ziC, ziN, maC, maN, oA, Tryz.ntmps201]
   repeat' (first
  | ((first | refine zag ?_ | refine zak ?_ | refine zah ?_ | fail); simp [hne, hk2, h1, del])
  | (refine CallP.fE (hnx) (by first | rfl | fail) (by first | simp [hne, hk2, h1, del] <;> rfl | fail) ?_; (try simp [hne, hk2, h1, del]))
  | (refine CallP.ok1 (hc1 _ _ (by first | omega | simp <;> omega | fail)) (by first | (simp [hne, hk2, h1, del, zaa, getK, zab, zac]; done) | fail) (by rfl) (by rfl) ?_; (try simp [hne, hk2, h1, del]))
  | (refine CallP.zeA (hc2 _ _ (by first | omega | simp <;> omega | fail)) (by first | (simp [hne, hk2, h1, del, zaa, getK, zab, zac]; done) | fail) (by rfl) (by first | assumption | (simp; done) | fail) (by rfl) (by simp) ?_; rintro ob' ⟨q', rfl⟩; refine ⟨_, Wk.refl _, ?_⟩)
  | fail)
   (refine hpan _ _ ⟨{ n := _, env := [], obs := [(i, pOb l q')], next := nx }, (Wk.cut rfl (by simp [hn]) (by simp [wkO, zaa, getK, zab, zac, Ob.under, D.under, zad, zae, hi, hne, zab, zac, zaa, getK]) (by simp [wkU, zal, zaa, getK, D.under, hi, hne, zab, zac, zaa, getK]) (by simp [wkE, zal, zaa, getK, hi, hne, zab, zac, zaa, getK])), by simp [hn], ?_⟩; try simp)
   exact PPost.zaD (by simp [PR.bind, *])
 ·simp only [hk2, if_false]
  (refine RetX.of_bodyW Tryz.func201 rfl (by simp) fun Γ hn hpan => ?_); simp only [entry, ziC, ziN, maC, maN, oA, Tryz.ntmps201]
  repeat' (first
  | ((first | refine zag ?_ | refine zak ?_ | refine zah ?_ | fail); simp [hne, hk2, del])
  | (refine CallP.fE (hnx) (by first | rfl | fail) (by first | simp [hne, hk2, del] <;> rfl | fail) ?_; (try simp [hne, hk2, del]))
  | (refine CallP.zeA (hc2 _ _ (by first | omega | simp <;> omega | fail)) (by first | (simp [hne, hk2, del, zaa, getK, zab, zac]; done) | fail) (by rfl) (by first | assumption | (simp; done) | fail) (by rfl) (by simp) ?_; rintro ob' ⟨q', rfl⟩; refine ⟨_, Wk.refl _, ?_⟩)
  | fail)
  (refine hpan _ _ ⟨{ n := _, env := [], obs := [(i, pOb l q')], next := nx }, (Wk.cut rfl (by simp [hn]) (by simp [wkO, zaa, getK, zab, zac, Ob.under, D.under, zad, zae, hi, hne, zab, zac, zaa, getK]) (by simp [wkU, zal, zaa, getK, D.under, hi, hne, zab, zac, zaa, getK]) (by simp [wkE, zal, zaa, getK, hi, hne, zab, zac, zaa, getK])), by simp [hn], ?_⟩; try simp)
  exact PPost.zaD (by simp [PR.bind, *])
theorem zno {l : List Tok} (hl : TokOK l) {p q : Nat} {a b n : Int} (h : zrB l p a b = .ok n q) : p ≤ q ∧ q < l.length := by
 unfold zrB at h
 split at h
 ·cases h
 ·rename_i t ht
  split at h
  ·rename_i hk2
   split at h
   ·cases h
    exact ⟨by omega, hl.fin p t ht (by omega)⟩
   ·cases h
  ·cases h
theorem zdP (l : List Tok) (p : Nat) (w : List UInt8) (a b : Int) (ws : List (List UInt8)) (i nx : Nat) (hi : i < nx) (hp : p < l.length) (hl : TokOK l) (hw : ws.length ≤ 100) :
  RetX Tryz.prog 125 [.ptr i 0, .u (.str w), ziZ a, ziZ b, .u (.sl (ws.map fun w => [.str w]))] [(i, pOb l p)] nx (PPost l i nx ziZ (zd4 l p w a b ws)) := by
 have hne := zaU hi
 have hh1 := fun nx' (h : nx ≤ nx') => zbo l p w i nx' (by omega) hp hl.len
 rw [zd4]
 cases hb : isB l p w with
 | false =>
  simp only [hb, Bool.false_eq_true, if_false] at hh1 ⊢
  (refine RetX.of_bodyW Tryz.func125 rfl (by simp) fun Γ hn hpan => ?_); simp only [entry, ziC, ziN, maC, maN, oA, Tryz.ntmps125]
  repeat' (first
  | ((first | refine zag ?_ | refine zak ?_ | refine zah ?_ | refine zai ?_ | fail); simp [hne, del])
  | (refine zau ?_; simp only [zao])
  | (refine CallP.ok1 (hh1 _ (by first | omega | simp <;> omega | fail)) (by first | (simp [hne, del, zaa, getK, zab, zac]; done) | fail) (by rfl) (by rfl) ?_; (try simp [hne, del]))
  | fail)
  (refine EndW.here ?_; (first | (refine EndOK.fin (.inr rfl) ?_) | (refine EndOK.fin (.inl rfl) ?_)); simp [zaI, zaf, Tryz.results125, hne, hi]; refine FinOK.cut [(i, pOb l p)] (nx) (by simp [zaa, getK, zab, zac, Ob.under, D.under, zad, zae, hne, hi] <;> omega) (by simp [D.under]) (by simp [hn]) ?_; try simp)
  exact PPost.zcD rfl rfl rfl
 | true =>
  have hp2 := zbm hl hb
  simp only [hb, if_true] at hh1 ⊢
  have hn1 := fun nx' (h : nx ≤ nx') => zl6 l (p + 1) a b i nx' (by omega) hp2 hl
  cases hr0 : zrB l (p + 1) a b with
  | stop pos e =>
   simp only [hr0] at hn1
   (refine RetX.of_bodyW Tryz.func125 rfl (by simp) fun Γ hn hpan => ?_); simp only [entry, ziC, ziN, maC, maN, oA, Tryz.ntmps125]
   repeat' (first
  | ((first | refine zag ?_ | refine zak ?_ | refine zah ?_ | refine zai ?_ | fail); simp [hne, del])
  | (refine zar ?_; simp only [zao])
  | (refine CallP.ok1 (hh1 _ (by first | omega | simp <;> omega | fail)) (by first | (simp [hne, del, zaa, getK, zab, zac]; done) | fail) (by rfl) (by rfl) ?_; (try simp [hne, del]))
  | (refine CallP.zeA (hn1 _ (by first | omega | simp <;> omega | fail)) (by first | (simp [hne, del, zaa, getK, zab, zac]; done) | fail) (by rfl) (by first | assumption | (simp; done) | fail) (by rfl) (by simp) ?_; rintro ob' ⟨q', rfl⟩; refine ⟨_, Wk.refl _, ?_⟩)
  | fail)
   (refine hpan _ _ ⟨{ n := _, env := [], obs := [(i, pOb l q')], next := nx }, (Wk.cut rfl (by simp [hn]) (by simp [wkO, zaa, getK, zab, zac, Ob.under, D.under, zad, zae, hi, hne, zab, zac, zaa, getK]) (by simp [wkU, zal, zaa, getK, D.under, hi, hne, zab, zac, zaa, getK]) (by simp [wkE, zal, zaa, getK, hi, hne, zab, zac, zaa, getK])), by simp [hn], ?_⟩; try simp)
   exact PPost.zaD (by simp [PR.bind, *])
  | ok n q0 =>
   simp only [hr0] at hn1
   obtain ⟨g0a, g0b⟩ := zno hl hr0
   have hw1 := fun nx' (h : nx ≤ nx') => ziD l q0 ws i nx' (by omega) g0b hl hw
   cases hr1 : zbY l q0 ws with
   | stop pos e =>
    simp only [hr1] at hw1
    (refine RetX.of_bodyW Tryz.func125 rfl (by simp) fun Γ hn hpan => ?_); simp only [entry, ziC, ziN, maC, maN, oA, Tryz.ntmps125]
    repeat' (first
  | ((first | refine zag ?_ | refine zak ?_ | refine zah ?_ | refine zai ?_ | fail); simp [hne, del])
  | (refine zar ?_; simp only [zao])
  | (refine CallP.ok1 (hh1 _ (by first | omega | simp <;> omega | fail)) (by first | (simp [hne, del, zaa, getK, zab, zac]; done) | fail) (by rfl) (by rfl) ?_; (try simp [hne, del]))
  | (refine CallP.ok1 (hn1 _ (by first | omega | simp <;> omega | fail)) (by first | (simp [hne, del, zaa, getK, zab, zac]; done) | fail) (by rfl) (by rfl) ?_; (try simp [hne, del]))
  | (refine CallP.zeA (hw1 _ (by first | omega | simp <;> omega | fail)) (by first | (simp [hne, del, zaa, getK, zab, zac]; done) | fail) (by rfl) (by first | assumption | (simp; done) | fail) (by rfl) (by simp) ?_; rintro ob' ⟨q', rfl⟩; refine ⟨_, Wk.refl _, ?_⟩)
  | fail)
    (refine hpan _ _ ⟨{ n := _, env := [], obs := [(i, pOb l q')], next := nx }, (Wk.cut rfl (by simp [hn]) (by simp [wkO, zaa, getK, zab, zac, Ob.under, D.under, zad, zae, hi, hne, zab, zac, zaa, getK]) (by simp [wkU, zal, zaa, getK, D.under, hi, hne, zab, zac, zaa, getK]) (by simp [wkE, zal, zaa, getK, hi, hne, zab, zac, zaa, getK])), by simp [hn], ?_⟩; try simp)
    exact PPost.zaD (by simp [PR.bind, *])
   | ok u q =>
    simp only [hr1] at hw1
    (refine RetX.of_bodyW Tryz.func125 rfl (by simp) fun Γ hn hpan => ?_); simp only [entry, ziC, ziN, maC, maN, oA, Tryz.ntmps125]
    repeat' (first
  | ((first | refine zag ?_ | refine zak ?_ | refine zah ?_ | refine zai ?_ | fail); simp [hne, del])
  | ((first | refine zau ?_ | refine zar ?_ | fail); simp only [zao])
  | (refine CallP.ok1 (hh1 _ (by first | omega | simp <;> omega | fail)) (by first | (simp [hne, del, zaa, getK, zab, zac]; done) | fail) (by rfl) (by rfl) ?_; (try simp [hne, del]))
  | (refine CallP.ok1 (hn1 _ (by first | omega | simp <;> omega | fail)) (by first | (simp [hne, del, zaa, getK, zab, zac]; done) | fail) (by rfl) (by rfl) ?_; (try simp [hne, del]))
  | (refine CallP.ok1 (hw1 _ (by first | omega | simp <;> omega | fail)) (by first | (simp [hne, del, zaa, getK, zab, zac]; done) | fail) (by rfl) (by rfl) ?_; (try simp [hne, del]))
  | fail)
    (refine EndW.here ?_; (first | (refine EndOK.fin (.inr rfl) ?_) | (refine EndOK.fin (.inl rfl) ?_)); simp [zaI, zaf, Tryz.results125, hne, hi]; refine FinOK.cut [(i, pOb l q)] (nx) (by simp [zaa, getK, zab, zac, Ob.under, D.under, zad, zae, hne, hi] <;> omega) (by simp [D.under]) (by simp [hn]) ?_; try simp)
    exact PPost.zcD (by simp [PR.bind, *]) rfl rfl
theorem zdQ {l : List Tok} (hl : TokOK l) {p q : Nat} {w : List UInt8} {a b n : Int} {ws : List (List UInt8)} (h : zd4 l p w a b ws = .ok n q) (hp : p < l.length) : p ≤ q ∧ q < l.length := by
 unfold zd4 at h
 split at h
 ·obtain ⟨m, r, h1, h⟩ := PR.zaH h
  have g1 := zno hl h1
  obtain ⟨m2, r2, h2, h⟩ := PR.zaH h
  have g2 := zaW hl _ h2 g1.2
  cases h
  exact ⟨by omega, g2.2⟩
 ·cases h; exact ⟨by omega, hp⟩
theorem zgW (l : List Tok) (p : Nat) (i nx : Nat) (hi : i < nx) (hp : p < l.length) (hl : TokOK l) (hl2 : l.length ≤ 2001) :
  RetX Tryz.prog 130 [.ptr i 0] [(i, pOb l p)] nx (PPost l i nx zeE (zex l p)) := by
 have hne := zaU hi
 have hll := hl.len
 rw [zex]
 have hE := fun nx' (h : nx ≤ nx') => (znh hl (4 * l.length + 3)).1 p 0 i nx' (by omega) hp (by omega) (by omega) (by omega)
 cases hr : zez l (4 * l.length + 3) p 0 with
 | stop pos e =>
  simp only [hr] at hE
  (refine RetX.of_bodyW Tryz.func130 rfl (by simp) fun Γ hn hpan => ?_); simp only [entry, ziC, ziN, maC, maN, oA, Tryz.ntmps130]
  repeat' (first
  | ((first | refine zag ?_ | refine zak ?_ | refine zah ?_ | fail); simp [hne, del])
  | (refine CallP.zeA (hE _ (by first | omega | simp <;> omega | fail)) (by first | (simp [hne, del, zaa, getK, zab, zac]; done) | fail) (by rfl) (by first | assumption | (simp; done) | fail) (by rfl) (by simp) ?_; rintro ob' ⟨q', rfl⟩; refine ⟨_, Wk.refl _, ?_⟩)
  | fail)
  (refine hpan _ _ ⟨{ n := _, env := [], obs := [(i, pOb l q')], next := nx }, (Wk.cut rfl (by simp [hn]) (by simp [wkO, zaa, getK, zab, zac, Ob.under, D.under, zad, zae, hi, hne, zab, zac, zaa, getK]) (by simp [wkU, zal, zaa, getK, D.under, hi, hne, zab, zac, zaa, getK]) (by simp [wkE, zal, zaa, getK, hi, hne, zab, zac, zaa, getK])), by simp [hn], ?_⟩; try simp)
  exact PPost.zaD (by simp [PR.bind, *])
 | ok y q =>
  have hEx := fun nx' h => zdo (hE nx' h) hr
  obtain ⟨g0a, g0b⟩ := (zcn hl _).1 _ _ _ _ hr hp
  have hlev := (zjJ (l := l) _).1 _ _ _ _ hr
  have hlev2 : y.lev ≤ 1000000000 := by
   have h1 : ((4 * l.length + 3 : Nat) : Int) * ((4 * l.length + 3 : Nat) : Int) ≤ 8007 * 8007 := Int.mul_le_mul (by omega) (by omega) (by omega) (by omega)
   omega
  have hlv := zma (SizeOf.sizeOf y) y (Nat.le_refl _) hlev2
  rw [Exp.row_eq] at hlv
  obtain ⟨t, ht⟩ : ∃ t, l[q]? = some t := ⟨_, List.getElem?_eq_getElem g0b⟩
  have his := zdR l q [59] g0b hl.len
  have hpa : zdE l q = t.pos := by unfold zdE; rw [ht]
  have hc1 := fun e nx' (h : nx ≤ nx') => zff l q e i nx' (by omega)
  have hc2 := fun e nx' (h : nx ≤ nx') => zdM l q t e i nx' (by omega) ht hl.len
  rw [PR.bind_ok, hpa]
  cases hb : isB l q [59] with
  | false =>
   simp only [hb, Bool.false_eq_true, if_false] at his ⊢
   (refine RetX.of_bodyW Tryz.func130 rfl (by simp) fun Γ hn hpan => ?_); simp only [entry, ziC, ziN, maC, maN, oA, Tryz.ntmps130]
   repeat' (first
  | ((first | refine zag ?_ | refine zak ?_ | refine zah ?_ | fail); simp [hne, del])
  | (refine CallP.fE (his) (by first | rfl | fail) (by first | simp [hne, del] <;> rfl | fail) ?_; (try simp [hne, del]))
  | (refine CallP.ok1 (hEx _ (by first | omega | simp <;> omega | fail)) (by first | (simp [hne, del, zaa, getK, zab, zac]; done) | fail) (by rfl) (by rfl) ?_; (try simp [hne, del]))
  | (refine CallP.zeA (hc2 _ _ (by first | omega | simp <;> omega | fail)) (by first | (simp [hne, del, zaa, getK, zab, zac]; done) | fail) (by rfl) (by first | assumption | (simp; done) | fail) (by rfl) (by simp) ?_; rintro ob' ⟨q', rfl⟩; refine ⟨_, Wk.refl _, ?_⟩)
  | fail)
   (refine hpan _ _ ⟨{ n := _, env := [], obs := [(i, pOb l q')], next := nx }, (Wk.cut rfl (by simp [hn]) (by simp [wkO, zaa, getK, zab, zac, Ob.under, D.under, zad, zae, hi, hne, zab, zac, zaa, getK]) (by simp [wkU, zal, zaa, getK, D.under, hi, hne, zab, zac, zaa, getK]) (by simp [wkE, zal, zaa, getK, hi, hne, zab, zac, zaa, getK])), by simp [hn], ?_⟩; try simp)
   exact PPost.zaD (by simp [PR.bind, *])
  | true =>
   have hq2 := zbm hl hb
   simp only [hb, if_true] at his ⊢
   by_cases hv : y.lev ≤ 12
   ·simp only [hv, if_true]
    (refine RetX.of_bodyW Tryz.func130 rfl (by simp) fun Γ hn hpan => ?_); simp only [entry, ziC, ziN, maC, maN, oA, Tryz.ntmps130]
    repeat' (first
  | ((first | refine zag ?_ | refine zak ?_ | fail); simp [hne, del, hv])
  | (refine ⟨by omega, ?_⟩)
  | (refine zah ?_; simp [hne, del, hv])
  | (refine zau ?_; simp only [zao])
  | (refine CallP.fE (his) (by first | rfl | fail) (by first | simp [hne, del, hv] <;> rfl | fail) ?_; (try simp [hne, del, hv]))
  | (refine CallP.fE (hlv) (by first | rfl | fail) (by first | simp [hne, del, hv] <;> rfl | fail) ?_; (try simp [hne, del, hv]))
  | (refine CallP.ok1 (hEx _ (by first | omega | simp <;> omega | fail)) (by first | (simp [hne, del, hv, zaa, getK, zab, zac]; done) | fail) (by rfl) (by rfl) ?_; (try simp [hne, del, hv]))
  | (refine CallP.ok1 (hc1 _ _ (by first | omega | simp <;> omega | fail)) (by first | (simp [hne, del, hv, zaa, getK, zab, zac]; done) | fail) (by rfl) (by rfl) ?_; (try simp [hne, del, hv]))
  | fail)
    refine EndW.norm ?_
    simp [St.norm, zbc, zbS, zb6, zb7, hne, nAA]
    (refine EndW.here ?_; (first | (refine EndOK.fin (.inr rfl) ?_) | (refine EndOK.fin (.inl rfl) ?_)); simp [zaI, zaf, Tryz.results130, hne, hi]; refine FinOK.cut [(i, pOb l (q + 1))] (nx) (by simp [zaa, getK, zab, zac, Ob.under, D.under, zad, zae, hne, hi] <;> omega) (by simp [D.under]) (by simp [hn]) ?_; try simp)
    exact PPost.zcD rfl (by simp [Exp.row_eq]) rfl
   ·simp only [hv, if_false]
    (refine RetX.of_bodyW Tryz.func130 rfl (by simp) fun Γ hn hpan => ?_); simp only [entry, ziC, ziN, maC, maN, oA, Tryz.ntmps130]
    repeat' (first
  | ((first | refine zag ?_ | refine zak ?_ | refine zah ?_ | fail); simp [hne, del, hv])
  | (refine CallP.fE (his) (by first | rfl | fail) (by first | simp [hne, del, hv] <;> rfl | fail) ?_; (try simp [hne, del, hv]))
  | (refine CallP.fE (hlv) (by first | rfl | fail) (by first | simp [hne, del, hv] <;> rfl | fail) ?_; (try simp [hne, del, hv]))
  | (refine CallP.ok1 (hEx _ (by first | omega | simp <;> omega | fail)) (by first | (simp [hne, del, hv, zaa, getK, zab, zac]; done) | fail) (by rfl) (by rfl) ?_; (try simp [hne, del, hv]))
  | (refine CallP.ok1 (hc1 _ _ (by first | omega | simp <;> omega | fail)) (by first | (simp [hne, del, hv, zaa, getK, zab, zac]; done) | fail) (by rfl) (by rfl) ?_; (try simp [hne, del, hv]))
  | (refine CallP.zeA (hc2 _ _ (by first | omega | simp <;> omega | fail)) (by first | (simp [hne, del, hv, zaa, getK, zab, zac]; done) | fail) (by rfl) (by first | assumption | (simp; done) | fail) (by rfl) (by simp) ?_; rintro ob' ⟨q', rfl⟩; refine ⟨_, Wk.refl _, ?_⟩)
  | fail)
    (refine hpan _ _ ⟨{ n := _, env := [], obs := [(i, pOb l q')], next := nx }, (Wk.cut rfl (by simp [hn]) (by simp [wkO, zaa, getK, zab, zac, Ob.under, D.under, zad, zae, hi, hne, zab, zac, zaa, getK]) (by simp [wkU, zal, zaa, getK, D.under, hi, hne, zab, zac, zaa, getK]) (by simp [wkE, zal, zaa, getK, hi, hne, zab, zac, zaa, getK])), by simp [hn], ?_⟩; try simp)
    exact PPost.zaD (by simp [PR.bind, *])
theorem zgY {l : List Tok} (hl : TokOK l) {p q : Nat} {e : Exp} (h : zex l p = .ok e q) (hp : p < l.length) : p ≤ q ∧ q < l.length := by
 unfold zex at h
 obtain ⟨y, r, h1, h⟩ := PR.zaH h
 have g1 := (zcn hl _).1 _ _ _ _ h1 hp
 split at h
 ·rename_i hb
  split at h
  ·cases h
   exact ⟨by omega, zbm hl hb⟩
  ·cases h
 ·cases h
theorem zkK : Fun Tryz.prog 72 [] (· = .u (.agg nothingE.row)) := by
 simp only [nothingE, Exp.row, List.map_nil]
 (refine Fun.of_bodyW Tryz.func72 rfl (by simp) fun Γ hn => ?_); simp only [entry, ziC, ziN, maC, maN, oA, Tryz.ntmps72]
 repeat' (first
  | ((first | refine zag ?_ | refine zak ?_ | refine zah ?_ | fail); simp)
  | (refine zau ?_; simp only [zao])
  | fail)
 refine EndW.norm ?_
 simp [St.norm, zbc, zbS, zb6, zb7]
 refine EndW.here ?_
 (refine EndOK.val (.inr rfl) ?_; simp [zaI, zaf, zaw, Tryz.results72])
theorem zfd (l : List Tok) (p : Nat) (w : List UInt8) (i nx : Nat) (hi : i < nx) (hp : p < l.length) (hl : TokOK l) (hl2 : l.length ≤ 2001) :
  RetX Tryz.prog 131 [.ptr i 0, .u (.str w)] [(i, pOb l p)] nx (PPost l i nx zeE (zdZ l p w)) := by
 have hne := zaU hi
 have hh1 := fun nx' (h : nx ≤ nx') => zbo l p w i nx' (by omega) hp hl.len
 rw [zdZ]
 cases hb : isB l p w with
 | false =>
  have h0 := zkK
  simp only [nothingE, Exp.row, List.map_nil] at h0
  simp only [hb, Bool.false_eq_true, if_false] at hh1 ⊢
  (refine RetX.of_bodyW Tryz.func131 rfl (by simp) fun Γ hn hpan => ?_); simp only [entry, ziC, ziN, maC, maN, oA, Tryz.ntmps131]
  repeat' (first
  | ((first | refine zag ?_ | refine zak ?_ | refine zah ?_ | refine zai ?_ | fail); simp [hne, del])
  | ((first | refine zau ?_ | refine zar ?_ | fail); simp only [zao])
  | (refine CallP.fE (h0) (by first | rfl | fail) (by first | simp [hne, del] <;> rfl | fail) ?_; (try simp [hne, del]))
  | (refine CallP.ok1 (hh1 _ (by first | omega | simp <;> omega | fail)) (by first | (simp [hne, del, zaa, getK, zab, zac]; done) | fail) (by rfl) (by rfl) ?_; (try simp [hne, del]))
  | fail)
  refine EndW.norm ?_
  simp [St.norm, zbc, zbS, zb6, zb7, hne, nAA]
  (refine EndW.here ?_; (first | (refine EndOK.fin (.inr rfl) ?_) | (refine EndOK.fin (.inl rfl) ?_)); simp [zaI, zaf, Tryz.results131, hne, hi]; refine FinOK.cut [(i, pOb l p)] (nx) (by simp [zaa, getK, zab, zac, Ob.under, D.under, zad, zae, hne, hi] <;> omega) (by simp [D.under]) (by simp [hn]) ?_; try simp)
  exact PPost.zcD rfl (by simp [nothingE, Exp.row]) rfl
 | true =>
  have hp2 := zbm hl hb
  simp only [hb, if_true] at hh1 ⊢
  have hn1 := fun nx' (h : nx ≤ nx') => zgW l (p + 1) i nx' (by omega) hp2 hl hl2
  cases hr0 : zex l (p + 1) with
  | stop pos e =>
   simp only [hr0] at hn1
   (refine RetX.of_bodyW Tryz.func131 rfl (by simp) fun Γ hn hpan => ?_); simp only [entry, ziC, ziN, maC, maN, oA, Tryz.ntmps131]
   repeat' (first
  | ((first | refine zag ?_ | refine zak ?_ | refine zah ?_ | refine zai ?_ | fail); simp [hne, del])
  | (refine CallP.ok1 (hh1 _ (by first | omega | simp <;> omega | fail)) (by first | (simp [hne, del, zaa, getK, zab, zac]; done) | fail) (by rfl) (by rfl) ?_; (try simp [hne, del]))
  | (refine CallP.zeA (hn1 _ (by first | omega | simp <;> omega | fail)) (by first | (simp [hne, del, zaa, getK, zab, zac]; done) | fail) (by rfl) (by first | assumption | (simp; done) | fail) (by rfl) (by simp) ?_; rintro ob' ⟨q', rfl⟩; refine ⟨_, Wk.refl _, ?_⟩)
  | fail)
   (refine hpan _ _ ⟨{ n := _, env := [], obs := [(i, pOb l q')], next := nx }, (Wk.cut rfl (by simp [hn]) (by simp [wkO, zaa, getK, zab, zac, Ob.under, D.under, zad, zae, hi, hne, zab, zac, zaa, getK]) (by simp [wkU, zal, zaa, getK, D.under, hi, hne, zab, zac, zaa, getK]) (by simp [wkE, zal, zaa, getK, hi, hne, zab, zac, zaa, getK])), by simp [hn], ?_⟩; try simp)
   exact PPost.zaD (by simp [PR.bind, *])
  | ok n q0 =>
   have hn1 := fun nx' h => zdo (hn1 nx' h) hr0
   (refine RetX.of_bodyW Tryz.func131 rfl (by simp) fun Γ hn hpan => ?_); simp only [entry, ziC, ziN, maC, maN, oA, Tryz.ntmps131]
   repeat' (first
  | ((first | refine zag ?_ | refine zak ?_ | refine zah ?_ | refine zai ?_ | fail); simp [hne, del])
  | (refine zau ?_; simp only [zao])
  | (refine CallP.ok1 (hh1 _ (by first | omega | simp <;> omega | fail)) (by first | (simp [hne, del, zaa, getK, zab, zac]; done) | fail) (by rfl) (by rfl) ?_; (try simp [hne, del]))
  | (refine CallP.ok1 (hn1 _ (by first | omega | simp <;> omega | fail)) (by first | (simp [hne, del, zaa, getK, zab, zac]; done) | fail) (by rfl) (by rfl) ?_; (try simp [hne, del]))
  | fail)
   refine EndW.norm ?_
   simp [St.norm, zbc, zbS, zb6, zb7, hne, nAA]
   (refine EndW.here ?_; (first | (refine EndOK.fin (.inr rfl) ?_) | (refine EndOK.fin (.inl rfl) ?_)); simp [zaI, zaf, Tryz.results131, hne, hi]; refine FinOK.cut [(i, pOb l q0)] (nx) (by simp [zaa, getK, zab, zac, Ob.under, D.under, zad, zae, hne, hi] <;> omega) (by simp [D.under]) (by simp [hn]) ?_; try simp)
   exact PPost.zcD rfl (by simp [Exp.row_eq]) rfl
theorem zfe {l : List Tok} (hl : TokOK l) {p q : Nat} {w : List UInt8} {e : Exp} (h : zdZ l p w = .ok e q) (hp : p < l.length) : p ≤ q ∧ q < l.length := by
 unfold zdZ at h
 split at h
 ·rename_i hb
  have := zgY hl h (zbm hl hb)
  exact ⟨by omega, this.2⟩
 ·cases h; exact ⟨by omega, hp⟩
/-- A call of one of the parser's functions, both ways. -/
theorem _root_.Go.VL.CallP.pp {P : Program} {Γ : Ctx} {s : St} {k : St → Prop} {dst : Option Tmp} {fop : Operand} {args : List Operand} {f caps} {ds : List D} {α : Type} {l : List Tok} {i : Nat} {ob : Ob} {val : α → D} {r : PR α}
  (hret : RetX P f ds [(i, ob)] s.next (PPost l i s.next val r)) (hj : getK s.obs i = some ob) (hf : zaz (opd s fop) = some (f, caps)) (hc : zaj P f = true) (hds : args.map (opd s) ++ caps = ds) (hp : zaG dst s)
  (hk : ∀ a q, r = .ok a q → k (({ s with obs := del s.obs i ++ [(i, pOb l q)], next := s.next } : St).put dst (val a)))
  (hx : ∀ pos e q, r = .stop pos e → ∃ s2, Wk Γ { s with obs := del s.obs i ++ [(i, pOb l q)], next := s.next } s2 ∧ Γ.pan (chP pos e) s2) : CallP P Γ fop args dst s k :=
 CallP.x1 hret hj hf hc hds hp (fun d o1 nx' _ h => by
  cases r with
  | ok a q => obtain ⟨h1, h2, h3⟩ := h; cases h1; subst h2; subst h3; exact hk a q rfl
  | stop pos e => obtain ⟨h1, _⟩ := h; cases h1) (fun ch o1 nx' _ h => by
  cases r with
  | ok a q => obtain ⟨h1, _⟩ := h; cases h1
  | stop pos e => obtain ⟨h1, ⟨ob', ⟨q, rfl⟩, h2⟩, h3⟩ := h; cases h1; subst h2; subst h3; exact hx pos e q rfl)
abbrev kbD (x : Int × Bool) : D := .tup [.u (.int .i64 x.1), .u (.bool x.2)]
theorem zpm (l : List Tok) (p : Nat) (i nx : Nat) (hi : i < nx) (hp : p < l.length) (hl : TokOK l) :
  RetX Tryz.prog 122 [.ptr i 0] [(i, pOb l p)] nx (PPost l i nx kbD (zkS l p)) := by
 have hne := zaU hi
 have hll := hl.len
 generalize hR : zkS l p = R
 rw [zkS] at hR
 (refine RetX.of_bodyW Tryz.func122 rfl (by simp) fun Γ hn hpan => ?_); simp only [entry, ziC, ziN, maC, maN, oA, Tryz.ntmps122]
 repeat' (first
  | ((first | refine zag ?_ | refine zak ?_ | refine zah ?_ | fail); simp [hne])
  | (refine zaF (by first | rfl | fail) ?_; simp [hne, frzN, frz1, zaC, zaB, St.frz, St.frzS, frzS, fv, zaQ, za2, za3, frzObS, zay, zas, del, frz, za8])
  | fail)
 (refine CallP.pp (zeC hl [99, 105, 114, 99, 108, 101] (q := p) (i := i) (by first | omega | simp <;> omega | fail) hp) (by first | (simp [hi, hne, nAA, zaa, getK, zab, zac]; done) | fail) (by rfl) (by first | assumption | (simp; done) | fail) (by rfl) (by simp) (fun v1 q1 h1 => ?_) (fun pos e q' h1 => ⟨_, Wk.refl _, ?_⟩); rotate_left 1; (focus (rw [h1, PR.zaL] at hR; (refine hpan _ _ ⟨{ n := _, env := [], obs := [(i, pOb l q')], next := nx }, (Wk.cut rfl (by simp [hn]) (by simp [wkO, zaa, getK, zab, zac, Ob.under, D.under, zad, zae, hi, hne, nAA, zab, zac, zaa, getK]) (by simp [wkU, zal, zaa, getK, D.under, hi, hne, nAA, zab, zac, zaa, getK]) (by simp [wkE, zal, zaa, getK, hi, hne, nAA, zab, zac, zaa, getK])), by simp [hn], ?_⟩; try simp); exact PPost.zaD hR.symm)); rw [h1, PR.bind_ok] at hR; (try simp [hi, hne, nAA]))
 obtain ⟨_, g1⟩ := zaW hl _ h1 hp
 have hh1 := fun nx' (h : nx ≤ nx') => zbo l q1 [114, 111, 116, 97, 116, 105, 110, 103] i nx' (by omega) g1 hl.len
 have hh2 := fun nx' (h : nx ≤ nx') => zbo l q1 [115, 97, 118, 105, 110, 103] i nx' (by omega) g1 hl.len
 by_cases c1 : isB l q1 [114, 111, 116, 97, 116, 105, 110, 103] = true
 ·have g2 := zbm hl c1
  rw [if_pos c1] at hR
  simp only [c1, if_true] at hh1
  repeat' (first
  | ((first | refine zag ?_ | refine zak ?_ | refine zah ?_ | refine zai ?_ | fail); simp [hne, del, nAA])
  | (refine CallP.ok1 (hh1 _ (by first | omega | simp <;> omega | fail)) (by first | (simp [hne, del, nAA, zaa, getK, zab, zac]; done) | fail) (by rfl) (by rfl) ?_; (try simp [hne, del, nAA]))
  | (refine zaF (by first | rfl | fail) ?_; simp [hne, del, nAA, frzN, frz1, zaC, zaB, St.frz, St.frzS, frzS, fv, zaQ, za2, za3, frzObS, zay, zas, del, frz, za8])
  | fail)
  (refine CallP.pp (zeC hl [59] (q := q1 + 1) (i := i) (by first | omega | simp <;> omega | fail) g2) (by first | (simp [hi, hne, nAA, zaa, getK, zab, zac]; done) | fail) (by rfl) (by first | assumption | (simp; done) | fail) (by rfl) (by simp) (fun v2 q2 h2 => ?_) (fun pos e q' h2 => ⟨_, Wk.refl _, ?_⟩); rotate_left 1; (focus (rw [h2, PR.zaL] at hR; (refine hpan _ _ ⟨{ n := _, env := [], obs := [(i, pOb l q')], next := nx }, (Wk.cut rfl (by simp [hn]) (by simp [wkO, zaa, getK, zab, zac, Ob.under, D.under, zad, zae, hi, hne, nAA, zab, zac, zaa, getK]) (by simp [wkU, zal, zaa, getK, D.under, hi, hne, nAA, zab, zac, zaa, getK]) (by simp [wkE, zal, zaa, getK, hi, hne, nAA, zab, zac, zaa, getK])), by simp [hn], ?_⟩; try simp); exact PPost.zaD hR.symm)); rw [h2, PR.bind_ok] at hR; (try simp [hi, hne, nAA]))
  repeat' (first
  | ((first | refine zag ?_ | refine zak ?_ | refine zah ?_ | fail); simp [hne, del, nAA])
  | (refine zau ?_; simp only [zao])
  | fail)
  (refine EndW.here ?_; (first | (refine EndOK.fin (.inr rfl) ?_) | (refine EndOK.fin (.inl rfl) ?_)); simp [zaI, zaf, Tryz.results122, hne, hi]; refine FinOK.cut [(i, pOb l q2)] (nx) (by simp [zaa, getK, zab, zac, Ob.under, D.under, zad, zae, hne, hi] <;> omega) (by simp [D.under]) (by simp [hn]) ?_; try simp)
  exact PPost.zcD hR.symm rfl rfl
 ·rw [if_neg c1] at hR
  simp only [c1, Bool.false_eq_true, if_false] at hh1
  by_cases c2 : isB l q1 [115, 97, 118, 105, 110, 103] = true
  ·have g2 := zbm hl c2
   rw [if_pos c2] at hR
   simp only [c2, if_true] at hh2
   repeat' (first
  | ((first | refine zag ?_ | refine zak ?_ | refine zah ?_ | refine zai ?_ | fail); simp [hne, del, nAA])
  | (refine CallP.ok1 (hh1 _ (by first | omega | simp <;> omega | fail)) (by first | (simp [hne, del, nAA, zaa, getK, zab, zac]; done) | fail) (by rfl) (by rfl) ?_; (try simp [hne, del, nAA]))
  | (refine CallP.ok1 (hh2 _ (by first | omega | simp <;> omega | fail)) (by first | (simp [hne, del, nAA, zaa, getK, zab, zac]; done) | fail) (by rfl) (by rfl) ?_; (try simp [hne, del, nAA]))
  | (refine zaF (by first | rfl | fail) ?_; simp [hne, del, nAA, frzN, frz1, zaC, zaB, St.frz, St.frzS, frzS, fv, zaQ, za2, za3, frzObS, zay, zas, del, frz, za8])
  | fail)
   (refine CallP.pp (zeC hl [59] (q := q1 + 1) (i := i) (by first | omega | simp <;> omega | fail) g2) (by first | (simp [hi, hne, nAA, zaa, getK, zab, zac]; done) | fail) (by rfl) (by first | assumption | (simp; done) | fail) (by rfl) (by simp) (fun v2 q2 h2 => ?_) (fun pos e q' h2 => ⟨_, Wk.refl _, ?_⟩); rotate_left 1; (focus (rw [h2, PR.zaL] at hR; (refine hpan _ _ ⟨{ n := _, env := [], obs := [(i, pOb l q')], next := nx }, (Wk.cut rfl (by simp [hn]) (by simp [wkO, zaa, getK, zab, zac, Ob.under, D.under, zad, zae, hi, hne, nAA, zab, zac, zaa, getK]) (by simp [wkU, zal, zaa, getK, D.under, hi, hne, nAA, zab, zac, zaa, getK]) (by simp [wkE, zal, zaa, getK, hi, hne, nAA, zab, zac, zaa, getK])), by simp [hn], ?_⟩; try simp); exact PPost.zaD hR.symm)); rw [h2, PR.bind_ok] at hR; (try simp [hi, hne, nAA]))
   repeat' (first
  | ((first | refine zag ?_ | refine zak ?_ | refine zah ?_ | fail); simp [hne, del, nAA])
  | (refine zau ?_; simp only [zao])
  | fail)
   (refine EndW.here ?_; (first | (refine EndOK.fin (.inr rfl) ?_) | (refine EndOK.fin (.inl rfl) ?_)); simp [zaI, zaf, Tryz.results122, hne, hi]; refine FinOK.cut [(i, pOb l q2)] (nx) (by simp [zaa, getK, zab, zac, Ob.under, D.under, zad, zae, hne, hi] <;> omega) (by simp [D.under]) (by simp [hn]) ?_; try simp)
   exact PPost.zcD hR.symm rfl rfl
  ·rw [if_neg c2] at hR
   simp only [c2, Bool.false_eq_true, if_false] at hh2
   repeat' (first
  | ((first | refine zag ?_ | refine zak ?_ | refine zah ?_ | refine zai ?_ | fail); simp [hne, del, nAA])
  | (refine zar ?_; simp only [zao])
  | (refine CallP.ok1 (hh1 _ (by first | omega | simp <;> omega | fail)) (by first | (simp [hne, del, nAA, zaa, getK, zab, zac]; done) | fail) (by rfl) (by rfl) ?_; (try simp [hne, del, nAA]))
  | (refine CallP.ok1 (hh2 _ (by first | omega | simp <;> omega | fail)) (by first | (simp [hne, del, nAA, zaa, getK, zab, zac]; done) | fail) (by rfl) (by rfl) ?_; (try simp [hne, del, nAA]))
  | (refine zaF (by first | rfl | fail) ?_; simp [hne, del, nAA, frzN, frz1, zaC, zaB, St.frz, St.frzS, frzS, fv, zaQ, za2, za3, frzObS, zay, zas, del, frz, za8])
  | fail)
   (refine CallP.pp (zeC hl [98, 105, 100, 100, 105, 110, 103] (q := q1) (i := i) (by first | omega | simp <;> omega | fail) g1) (by first | (simp [hi, hne, nAA, zaa, getK, zab, zac]; done) | fail) (by rfl) (by first | assumption | (simp; done) | fail) (by rfl) (by simp) (fun v2 q2 h2 => ?_) (fun pos e q' h2 => ⟨_, Wk.refl _, ?_⟩); rotate_left 1; (focus (rw [h2, PR.zaL] at hR; (refine hpan _ _ ⟨{ n := _, env := [], obs := [(i, pOb l q')], next := nx }, (Wk.cut rfl (by simp [hn]) (by simp [wkO, zaa, getK, zab, zac, Ob.under, D.under, zad, zae, hi, hne, nAA, zab, zac, zaa, getK]) (by simp [wkU, zal, zaa, getK, D.under, hi, hne, nAA, zab, zac, zaa, getK]) (by simp [wkE, zal, zaa, getK, hi, hne, nAA, zab, zac, zaa, getK])), by simp [hn], ?_⟩; try simp); exact PPost.zaD hR.symm)); rw [h2, PR.bind_ok] at hR; (try simp [hi, hne, nAA]))
   obtain ⟨_, g2⟩ := zaW hl _ h2 g1
   have hh3 := fun nx' (h : nx ≤ nx') => zbo l q2 [115, 101, 97, 108, 101, 100] i nx' (by omega) g2 hl.len
   by_cases c3 : isB l q2 [115, 101, 97, 108, 101, 100] = true
   ·have g3 := zbm hl c3
    rw [if_pos c3] at hR
    simp only [c3, if_true] at hh3
    repeat' (first
  | ((first | refine zag ?_ | refine zak ?_ | refine zah ?_ | fail); simp [hne, del, nAA])
  | (refine CallP.ok1 (hh3 _ (by first | omega | simp <;> omega | fail)) (by first | (simp [hne, del, nAA, zaa, getK, zab, zac]; done) | fail) (by rfl) (by rfl) ?_; (try simp [hne, del, nAA]))
  | (refine zaF (by first | rfl | fail) ?_; simp [hne, del, nAA, frzN, frz1, zaC, zaB, St.frz, St.frzS, frzS, fv, zaQ, za2, za3, frzObS, zay, zas, del, frz, za8])
  | fail)
    (refine CallP.pp (zeC hl [59] (q := q2 + 1) (i := i) (by first | omega | simp <;> omega | fail) g3) (by first | (simp [hi, hne, nAA, zaa, getK, zab, zac]; done) | fail) (by rfl) (by first | assumption | (simp; done) | fail) (by rfl) (by simp) (fun v3 q3 h3 => ?_) (fun pos e q' h3 => ⟨_, Wk.refl _, ?_⟩); rotate_left 1; (focus (rw [h3, PR.zaL] at hR; (refine hpan _ _ ⟨{ n := _, env := [], obs := [(i, pOb l q')], next := nx }, (Wk.cut rfl (by simp [hn]) (by simp [wkO, zaa, getK, zab, zac, Ob.under, D.under, zad, zae, hi, hne, nAA, zab, zac, zaa, getK]) (by simp [wkU, zal, zaa, getK, D.under, hi, hne, nAA, zab, zac, zaa, getK]) (by simp [wkE, zal, zaa, getK, hi, hne, nAA, zab, zac, zaa, getK])), by simp [hn], ?_⟩; try simp); exact PPost.zaD hR.symm)); rw [h3, PR.bind_ok] at hR; (try simp [hi, hne, nAA]))
    repeat' (first
  | ((first | refine zag ?_ | refine zak ?_ | refine zah ?_ | fail); simp [hne, del, nAA])
  | (refine zau ?_; simp only [zao])
  | fail)
    (refine EndW.here ?_; (first | (refine EndOK.fin (.inr rfl) ?_) | (refine EndOK.fin (.inl rfl) ?_)); simp [zaI, zaf, Tryz.results122, hne, hi]; refine FinOK.cut [(i, pOb l q3)] (nx) (by simp [zaa, getK, zab, zac, Ob.under, D.under, zad, zae, hne, hi] <;> omega) (by simp [D.under]) (by simp [hn]) ?_; try simp)
    exact PPost.zcD hR.symm rfl rfl
   ·rw [if_neg c3] at hR
    simp only [c3, Bool.false_eq_true, if_false] at hh3
    repeat' (first
  | ((first | refine zag ?_ | refine zak ?_ | refine zah ?_ | fail); simp [hne, del, nAA])
  | (refine CallP.ok1 (hh3 _ (by first | omega | simp <;> omega | fail)) (by first | (simp [hne, del, nAA, zaa, getK, zab, zac]; done) | fail) (by rfl) (by rfl) ?_; (try simp [hne, del, nAA]))
  | (refine zaF (by first | rfl | fail) ?_; simp [hne, del, nAA, frzN, frz1, zaC, zaB, St.frz, St.frzS, frzS, fv, zaQ, za2, za3, frzObS, zay, zas, del, frz, za8])
  | fail)
    (refine CallP.pp (zeC hl [59] (q := q2) (i := i) (by first | omega | simp <;> omega | fail) g2) (by first | (simp [hi, hne, nAA, zaa, getK, zab, zac]; done) | fail) (by rfl) (by first | assumption | (simp; done) | fail) (by rfl) (by simp) (fun v3 q3 h3 => ?_) (fun pos e q' h3 => ⟨_, Wk.refl _, ?_⟩); rotate_left 1; (focus (rw [h3, PR.zaL] at hR; (refine hpan _ _ ⟨{ n := _, env := [], obs := [(i, pOb l q')], next := nx }, (Wk.cut rfl (by simp [hn]) (by simp [wkO, zaa, getK, zab, zac, Ob.under, D.under, zad, zae, hi, hne, nAA, zab, zac, zaa, getK]) (by simp [wkU, zal, zaa, getK, D.under, hi, hne, nAA, zab, zac, zaa, getK]) (by simp [wkE, zal, zaa, getK, hi, hne, nAA, zab, zac, zaa, getK])), by simp [hn], ?_⟩; try simp); exact PPost.zaD hR.symm)); rw [h3, PR.bind_ok] at hR; (try simp [hi, hne, nAA]))
    repeat' (first
  | ((first | refine zag ?_ | refine zak ?_ | refine zah ?_ | fail); simp [hne, del, nAA])
  | (refine zau ?_; simp only [zao])
  | fail)
    (refine EndW.here ?_; (first | (refine EndOK.fin (.inr rfl) ?_) | (refine EndOK.fin (.inl rfl) ?_)); simp [zaI, zaf, Tryz.results122, hne, hi]; refine FinOK.cut [(i, pOb l q3)] (nx) (by simp [zaa, getK, zab, zac, Ob.under, D.under, zad, zae, hne, hi] <;> omega) (by simp [D.under]) (by simp [hn]) ?_; try simp)
    exact PPost.zcD hR.symm rfl rfl
theorem zpo {l : List Tok} (hl : TokOK l) {p q : Nat} {x : Int × Bool} (h : zkS l p = .ok x q) (hp : p < l.length) : p ≤ q ∧ q < l.length := by
 unfold zkS at h
 obtain ⟨_, r1, h1, h⟩ := PR.zaH h
 have g1 := zaW hl _ h1 hp
 split at h
 ·rename_i hb
  obtain ⟨_, r2, h2, h⟩ := PR.zaH h
  have g2 := zaW hl _ h2 (zbm hl hb)
  cases h
  exact ⟨by omega, g2.2⟩
 ·split at h
  ·rename_i hb
   obtain ⟨_, r2, h2, h⟩ := PR.zaH h
   have g2 := zaW hl _ h2 (zbm hl hb)
   cases h
   exact ⟨by omega, g2.2⟩
  ·obtain ⟨_, r2, h2, h⟩ := PR.zaH h
   have g2 := zaW hl _ h2 g1.2
   split at h
   ·rename_i hb
    obtain ⟨_, r3, h3, h⟩ := PR.zaH h
    have g3 := zaW hl _ h3 (zbm hl hb)
    cases h
    exact ⟨by omega, g3.2⟩
   ·obtain ⟨_, r3, h3, h⟩ := PR.zaH h
    have g3 := zaW hl _ h3 g2.2
    cases h
    exact ⟨by omega, g3.2⟩
theorem zl4 : Fun Tryz.prog 74 [] (· = .u (.sl (ordersW.map fun w => [.str w]))) := by
 simp only [ordersW, List.map_cons, List.map_nil]
 (refine Fun.of_bodyW Tryz.func74 rfl (by simp) fun Γ hn => ?_); simp only [entry, ziC, ziN, maC, maN, oA, Tryz.ntmps74]
 repeat' (first
  | ((first | refine zag ?_ | refine zak ?_ | refine zah ?_ | fail); simp [zbI, zbE])
  | (refine zau ?_; simp only [zao])
  | fail)
 (refine EndW.frzN 1 ?_; simp [frzN, frz1, zaC, zaB, St.frz, St.frzS, frzS, fv, zaQ, za2, za3, frzObS, zay, zas, del, frz, za8])
 refine EndW.here ?_
 (refine EndOK.val (.inr rfl) ?_; simp [zaI, zaf, zaw, Tryz.results74])
/-- The first of words that stands at a place is read. -/
def atW (l : List Tok) (q : Nat) (ws : List W8) : Option Nat := ws.findIdx? fun w => isB l q w
theorem zmj (l : List Tok) (q : Nat) (ws : List W8) (i nx : Nat) (hi : i < nx) (hq : q < l.length) (hl : TokOK l) :
  RetX Tryz.prog 202 [.u (.sl (ws.map fun w => [.str w])), .bnd (.func 200) [.ptr i 0]] [(i, pOb l q)] nx
   (fun r o n => r = .val (match atW l q ws with | some j => ziZ j | none => ziZ (-1)) ∧ o = [(i, pOb l (if (atW l q ws).isSome then q + 1 else q))] ∧ n = nx) := by
 have hne := zaU hi
 generalize hA : atW l q ws = A
 (refine RetX.of_bodyW Tryz.func202 rfl (by simp) fun Γ hn hpan => ?_); simp only [entry, ziC, ziN, maC, maN, oA, Tryz.ntmps202]
 refine zgE (x := 0) rfl fun hll => ?_
 simp at hll
 repeat' (first
  | ((first | refine zag ?_ | refine zak ?_ | refine zah ?_ | refine zaA ?_ | fail); simp)
  | fail)
 refine zcg (α := { j : Nat // j ≤ ws.length ∧ ∀ w ∈ ws.take j, isB l q w = false }) [0, 1, 7] (fun x => [(8, .u (.int .i64 x.1))]) (fun x => [(i, pOb l q)]) nx (fun x => ws.length - x.1) ⟨0, by omega, by simp⟩ ?_ ?_
 ·exact (Wk.cut rfl (by simp [hn, St.lp]) (by simp [wkO, St.lp, zaa, getK, Ob.under, D.under, zad, zae, hi]) (by simp [wkU, St.lp, zal, zaa, getK, D.under, hi]) (by simp [wkE, St.lp, zal, zaa, getK, hi] <;> (try (intros; simp_all; done)) <;> (try (intros; omega)) <;> (try grind)))
 rintro ⟨j, h1, h2⟩
 simp [St.lp, St.only, zal, zaa, getK]
 rcases hx : ws[j]? with _ | w
 ·have hge : ws.length ≤ j := by simpa using hx
  rw [List.take_of_length_le hge] at h2
  have hn0 : atW l q ws = none := by
   unfold atW
   rw [List.findIdx?_eq_none_iff]
   exact h2
  rw [hn0] at hA
  subst hA
  repeat' (first
  | ((first | refine zag ?_ | refine zak ?_ | fail); simp [hx])
  | (refine ⟨by omega, ?_⟩)
  | (refine zah ?_; simp [hx])
  | (refine zau ?_; simp only [zao])
  | (refine za6 ?_; simp [zao])
  | (intro hc <;> (try (exfalso; omega)))
  | fail)
  (refine EndW.here ?_; (first | (refine EndOK.fin (.inr rfl) ?_) | (refine EndOK.fin (.inl rfl) ?_)); simp [zaI, zaf, Tryz.results202]; refine FinOK.here (by simp) ?_; try simp)
 ·have hlt : j < ws.length := (lGE.1 hx).1
  have hh := zbo l q w i nx hi hq hl.len
  cases hb : isB l q w with
  | false =>
   rw [hb, if_neg (by simp)] at hh
   repeat' (first
  | ((first | refine zag ?_ | refine zak ?_ | refine zah ?_ | fail); simp [hx])
  | (refine zar ?_; simp only [zao])
  | (refine ⟨?_, by omega⟩)
  | (intro hc <;> (try (exfalso; omega)))
  | fail)
   refine CallP.bok hh (by simp [zaa, getK]) rfl (by first | assumption | simp) rfl (by simp) ?_
   repeat' (first
  | ((first | refine zag ?_ | refine zak ?_ | fail); simp [hx])
  | (refine ⟨by omega, ?_⟩)
  | ((first | refine zai ?_ | refine zat ?_ | fail); simp [hx])
  | (refine zar ?_; simp only [zao])
  | fail)
   refine LoopW.next ⟨j + 1, by omega, zaY hx h2 hb⟩ (by simp; omega) ?_
   exact (Wk.cut rfl (by simp [hn, St.lp]) (by simp [wkO, St.lp, zaa, getK, Ob.under, D.under, zad, zae, hi, zab, zac, zaa, getK]) (by simp [wkU, St.lp, zal, zaa, getK, D.under, hi, zab, zac, zaa, getK]) (by simp [wkE, St.lp, zal, zaa, getK, hi, zab, zac, zaa, getK] <;> (try (intros; simp_all; done)) <;> (try (intros; omega)) <;> (try grind)))
  | true =>
   rw [hb, if_pos rfl] at hh
   have hn0 : atW l q ws = some j := by
    unfold atW
    rw [List.findIdx?_eq_some_iff_getElem]
    obtain ⟨h3, h4⟩ := lGE.1 hx
    refine ⟨h3, by rw [h4]; exact hb, fun k hk => ?_⟩
    have := h2 ws[k] (by rw [List.mem_take_iff_getElem]; exact ⟨k, by omega, rfl⟩)
    simp [this]
   rw [hn0] at hA
   subst hA
   repeat' (first
  | ((first | refine zag ?_ | refine zak ?_ | refine zah ?_ | fail); simp [hx])
  | (refine zar ?_; simp only [zao])
  | (refine ⟨?_, by omega⟩)
  | (intro hc <;> (try (exfalso; omega)))
  | fail)
   refine CallP.bok hh (by simp [zaa, getK]) rfl (by first | assumption | simp) rfl (by simp) ?_
   repeat' (first
  | ((first | refine zag ?_ | refine zak ?_ | refine zah ?_ | refine zai ?_ | fail); simp [hx])
  | (refine zau ?_; simp only [zao])
  | fail)
   (refine EndW.here ?_; (first | (refine EndOK.fin (.inr rfl) ?_) | (refine EndOK.fin (.inl rfl) ?_)); simp [zaI, zaf, Tryz.results202]; refine FinOK.here (by simp) ?_; try simp)
theorem znj (l : List Tok) (p : Nat) (i nx : Nat) (hi : i < nx) (hp : p < l.length) (hl : TokOK l) :
  RetX Tryz.prog 126 [.ptr i 0] [(i, pOb l p)] nx (PPost l i nx ziZ (zhb l p)) := by
 have hne := zaU hi
 have hll := hl.len
 have hor := zl4
 generalize hR : zhb l p = R
 rw [zhb] at hR
 have hh1 := fun nx' (h : nx ≤ nx') => zbo l p [111, 114, 100, 101, 114] i nx' (by omega) hp hl.len
 by_cases c1 : isB l p [111, 114, 100, 101, 114] = true
 ·have g1 := zbm hl c1
  rw [if_pos c1] at hR
  simp only [c1, if_true] at hh1
  have hix := fun nx' (h : nx ≤ nx') => zmj l (p + 1) ordersW i nx' (by omega) g1 hl
  have hat : atW l (p + 1) ordersW = ordersW.findIdx? fun w => isB l (p + 1) w := rfl
  rw [← hat] at hR
  obtain ⟨t, ht⟩ : ∃ t, l[p + 1]? = some t := ⟨_, List.getElem?_eq_getElem g1⟩
  have hpa : zdE l (p + 1) = t.pos := by unfold zdE; rw [ht]
  rw [hpa] at hR
  cases hj : atW l (p + 1) ordersW with
  | none =>
   have hc2 := fun e nx' (h : nx ≤ nx') => zdM l (p + 1) t e i nx' (by omega) ht hl.len
   rw [hj] at hR hix
   simp only [Option.isSome_none, Bool.false_eq_true, if_false] at hR hix
   (refine RetX.of_bodyW Tryz.func126 rfl (by simp) fun Γ hn hpan => ?_); simp only [entry, ziC, ziN, maC, maN, oA, Tryz.ntmps126]
   repeat' (first
  | ((first | refine zag ?_ | refine zak ?_ | refine zah ?_ | refine zai ?_ | fail); simp [hne, del, nAA])
  | (refine zar ?_; simp only [zao])
  | (refine CallP.fE (hor) (by first | rfl | fail) (by first | simp [hne, del, nAA] <;> rfl | fail) ?_; (try simp [hne, del, nAA]))
  | (refine CallP.ok1 (hh1 _ (by first | omega | simp <;> omega | fail)) (by first | (simp [hne, del, nAA, zaa, getK, zab, zac]; done) | fail) (by rfl) (by rfl) ?_; (try simp [hne, del, nAA]))
  | (refine CallP.ok1 (hix _ (by first | omega | simp <;> omega | fail)) (by first | (simp [hne, del, nAA, zaa, getK, zab, zac]; done) | fail) (by rfl) (by rfl) ?_; (try simp [hne, del, nAA]))
  | (refine CallP.zeA (hc2 _ _ (by first | omega | simp <;> omega | fail)) (by first | (simp [hne, del, nAA, zaa, getK, zab, zac]; done) | fail) (by rfl) (by first | assumption | (simp; done) | fail) (by rfl) (by simp) ?_; rintro ob' ⟨q', rfl⟩; refine ⟨_, Wk.refl _, ?_⟩)
  | fail)
   (refine hpan _ _ ⟨{ n := _, env := [], obs := [(i, pOb l q')], next := nx }, (Wk.cut rfl (by simp [hn]) (by simp [wkO, zaa, getK, zab, zac, Ob.under, D.under, zad, zae, hi, hne, zab, zac, zaa, getK]) (by simp [wkU, zal, zaa, getK, D.under, hi, hne, zab, zac, zaa, getK]) (by simp [wkE, zal, zaa, getK, hi, hne, zab, zac, zaa, getK])), by simp [hn], ?_⟩; try simp)
   exact PPost.zaD hR.symm
  | some j =>
   have g2 : p + 1 + 1 < l.length := by
    unfold atW at hj
    rw [List.findIdx?_eq_some_iff_getElem] at hj
    obtain ⟨_, hb, _⟩ := hj
    exact zbm hl hb
   have hj0 : (0 : Int) ≤ (j : Int) := by omega
   have hc1 := fun e nx' (h : nx ≤ nx') => zff l (p + 1 + 1) e i nx' (by omega)
   rw [hj] at hR hix
   simp only [Option.isSome_some, if_true] at hR hix
   (refine RetX.of_bodyW Tryz.func126 rfl (by simp) fun Γ hn hpan => ?_); simp only [entry, ziC, ziN, maC, maN, oA, Tryz.ntmps126]
   repeat' (first
  | ((first | refine zag ?_ | refine zak ?_ | refine zah ?_ | refine zai ?_ | fail); simp [hne, del, nAA, hj0])
  | (refine zar ?_; simp only [zao])
  | (refine CallP.fE (hor) (by first | rfl | fail) (by first | simp [hne, del, nAA, hj0] <;> rfl | fail) ?_; (try simp [hne, del, nAA, hj0]))
  | (refine CallP.ok1 (hh1 _ (by first | omega | simp <;> omega | fail)) (by first | (simp [hne, del, nAA, hj0, zaa, getK, zab, zac]; done) | fail) (by rfl) (by rfl) ?_; (try simp [hne, del, nAA, hj0]))
  | (refine CallP.ok1 (hix _ (by first | omega | simp <;> omega | fail)) (by first | (simp [hne, del, nAA, hj0, zaa, getK, zab, zac]; done) | fail) (by rfl) (by rfl) ?_; (try simp [hne, del, nAA, hj0]))
  | (refine CallP.ok1 (hc1 _ _ (by first | omega | simp <;> omega | fail)) (by first | (simp [hne, del, nAA, hj0, zaa, getK, zab, zac]; done) | fail) (by rfl) (by rfl) ?_; (try simp [hne, del, nAA, hj0]))
  | (refine zaF (by first | rfl | fail) ?_; simp [hne, del, nAA, hj0, frzN, frz1, zaC, zaB, St.frz, St.frzS, frzS, fv, zaQ, za2, za3, frzObS, zay, zas, del, frz, za8])
  | fail)
   (refine CallP.pp (zeC hl [59] (q := p + 1 + 1) (i := i) (by first | omega | simp <;> omega | fail) g2) (by first | (simp [hi, hne, nAA, zaa, getK, zab, zac]; done) | fail) (by rfl) (by first | assumption | (simp; done) | fail) (by rfl) (by simp) (fun v2 q2 h2 => ?_) (fun pos e q' h2 => ⟨_, Wk.refl _, ?_⟩); rotate_left 1; (focus (rw [h2, PR.zaL] at hR; (refine hpan _ _ ⟨{ n := _, env := [], obs := [(i, pOb l q')], next := nx }, (Wk.cut rfl (by simp [hn]) (by simp [wkO, zaa, getK, zab, zac, Ob.under, D.under, zad, zae, hi, hne, nAA, zab, zac, zaa, getK]) (by simp [wkU, zal, zaa, getK, D.under, hi, hne, nAA, zab, zac, zaa, getK]) (by simp [wkE, zal, zaa, getK, hi, hne, nAA, zab, zac, zaa, getK])), by simp [hn], ?_⟩; try simp); exact PPost.zaD hR.symm)); rw [h2, PR.bind_ok] at hR; (try simp [hi, hne, nAA]))
   repeat' (first
  | ((first | refine zag ?_ | refine zak ?_ | refine zah ?_ | fail); simp [hne, del])
  | (refine zau ?_; simp only [zao])
  | fail)
   (refine EndW.here ?_; (first | (refine EndOK.fin (.inr rfl) ?_) | (refine EndOK.fin (.inl rfl) ?_)); simp [zaI, zaf, Tryz.results126, hne, hi]; refine FinOK.cut [(i, pOb l q2)] (nx) (by simp [zaa, getK, zab, zac, Ob.under, D.under, zad, zae, hne, hi] <;> omega) (by simp [D.under]) (by simp [hn]) ?_; try simp)
   exact PPost.zcD hR.symm rfl rfl
 ·rw [if_neg c1] at hR
  simp only [c1, Bool.false_eq_true, if_false] at hh1
  (refine RetX.of_bodyW Tryz.func126 rfl (by simp) fun Γ hn hpan => ?_); simp only [entry, ziC, ziN, maC, maN, oA, Tryz.ntmps126]
  repeat' (first
  | ((first | refine zag ?_ | refine zak ?_ | refine zah ?_ | refine zai ?_ | fail); simp [hne, del, nAA])
  | (refine zau ?_; simp only [zao])
  | (refine CallP.ok1 (hh1 _ (by first | omega | simp <;> omega | fail)) (by first | (simp [hne, del, nAA, zaa, getK, zab, zac]; done) | fail) (by rfl) (by rfl) ?_; (try simp [hne, del, nAA]))
  | fail)
  (refine EndW.here ?_; (first | (refine EndOK.fin (.inr rfl) ?_) | (refine EndOK.fin (.inl rfl) ?_)); simp [zaI, zaf, Tryz.results126, hne, hi]; refine FinOK.cut [(i, pOb l p)] (nx) (by simp [zaa, getK, zab, zac, Ob.under, D.under, zad, zae, hne, hi] <;> omega) (by simp [D.under]) (by simp [hn]) ?_; try simp)
  exact PPost.zcD hR.symm rfl rfl
theorem znk {l : List Tok} (hl : TokOK l) {p q : Nat} {n : Int} (h : zhb l p = .ok n q) (hp : p < l.length) : p ≤ q ∧ q < l.length := by
 unfold zhb at h
 split at h
 ·split at h
  ·rename_i j hj
   rw [List.findIdx?_eq_some_iff_getElem] at hj
   obtain ⟨_, hb, _⟩ := hj
   obtain ⟨_, r2, h2, h⟩ := PR.zaH h
   have g2 := zaW hl _ h2 (zbm hl hb)
   cases h
   exact ⟨by omega, g2.2⟩
  ·cases h
 ·cases h; exact ⟨by omega, hp⟩
theorem zjx (x : Let) (s : W8) : Fun Tryz.prog 128 (zpl x :: [U.row [.str s] 0].map .u) (· = .u (.bool (decide (x.name = s)))) := by
 simp only [zpl, List.map_cons, List.map_nil]
 (refine Fun.of_body Tryz.func128 rfl (by simp) fun Γ hn => ?_); simp only [entry, ziC, ziN, maC, maN, oA, Tryz.ntmps128]
 repeat' (first
  | ((first | refine zag ?_ | refine zak ?_ | refine zah ?_ | fail); simp)
  | (refine zau ?_; simp only [zao])
  | fail)
 (refine EndOK.val (.inr rfl) ?_; simp [zaI, zaf, zaw, Tryz.results128])
theorem zmZ (lets : List Let) (s : W8) : Fun Tryz.prog 90 [.u (zeO lets), .fnc (.func 128) [.u (.row [.str s] 0)]]
  (· = .u (.bool (lets.any fun x => decide (x.name = s)))) :=
 zeu lets 128 [U.row [.str s] 0] _ (fun x _ => zjx x s) (by simp) (fun _ => rfl) (fun _ => rfl)
theorem zmI (l : List Tok) (hl0 : 0 < l.length) (hl : TokOK l) (hl2 : l.length ≤ 2001) :
  RetX Tryz.prog 64 [.ptr 3 0] [(3, pOb l 0)] 4 (PPost l 3 4 byD (zq6 l)) := by
 have hi : 3 < 4 := by decide
 have hne := zaU hi
 have hll := hl.len
 have htE : True := trivial
 generalize hR : zq6 l = R
 rw [zq6] at hR
 (refine RetX.of_bodyW Tryz.func64 rfl (by simp) fun Γ hn hpan => ?_); simp only [entry, ziC, ziN, maC, maN, oA, Tryz.ntmps64]
 repeat' (first
  | ((first | refine zag ?_ | refine zak ?_ | refine zah ?_ | fail); simp [hne])
  | fail)
 (refine CallP.pp (zpm l 0 3 _ (by first | omega | simp <;> omega | fail) hl0 hl) (by first | (simp [hi, hne, del, htE, zaa, getK, zab, zac]; done) | fail) (by rfl) (by first | assumption | (simp; done) | fail) (by rfl) (by simp) (fun kb q1 h1 => ?_) (fun pos e q' h1 => ⟨_, Wk.refl _, ?_⟩); rotate_left 1; (focus (rw [h1, PR.zaL] at hR; (refine hpan _ _ ⟨{ n := _, env := [], obs := [(3, pOb l q')], next := 4 }, (Wk.cut rfl (by simp [hn]) (by simp [wkO, zaa, getK, zab, zac, Ob.under, D.under, zad, zae, hi, hne, del, htE, zab, zac, zaa, getK]) (by simp [wkU, zal, zaa, getK, D.under, hi, hne, del, htE, zab, zac, zaa, getK]) (by simp [wkE, zal, zaa, getK, hi, hne, del, htE, zab, zac, zaa, getK])), by simp [hn], ?_⟩; try simp); exact PPost.zaD hR.symm)); rw [h1, PR.bind_ok] at hR; (try simp [hi, hne, del, htE]))
 obtain ⟨_, g1⟩ := zpo hl h1 hl0
 have hm := zdR l q1 [112, 101, 114, 105, 111, 100] g1 hl.len
 repeat' (first
  | ((first | refine zag ?_ | refine zak ?_ | refine zah ?_ | fail); simp [hne, del])
  | (refine CallP.fE (hm) (by first | rfl | fail) (by first | simp [hne, del] <;> rfl | fail) ?_; (try simp [hne, del]))
  | fail)
 (refine CallP.pp (zlo l q1 [112, 101, 114, 105, 111, 100] 3 _ (by first | omega | simp <;> omega | fail) g1 hl) (by first | (simp [hi, hne, del, htE, zaa, getK, zab, zac]; done) | fail) (by rfl) (by first | assumption | (simp; done) | fail) (by rfl) (by simp) (fun u2 q2 h2 => ?_) (fun pos e q' h2 => ⟨_, Wk.refl _, ?_⟩); rotate_left 1; (focus (rw [h2, PR.zaL] at hR; (refine hpan _ _ ⟨{ n := _, env := [], obs := [(3, pOb l q')], next := 4 }, (Wk.cut rfl (by simp [hn]) (by simp [wkO, zaa, getK, zab, zac, Ob.under, D.under, zad, zae, hi, hne, del, htE, zab, zac, zaa, getK]) (by simp [wkU, zal, zaa, getK, D.under, hi, hne, del, htE, zab, zac, zaa, getK]) (by simp [wkE, zal, zaa, getK, hi, hne, del, htE, zab, zac, zaa, getK])), by simp [hn], ?_⟩; try simp); exact PPost.zaD hR.symm)); rw [h2, PR.bind_ok] at hR; (try simp [hi, hne, del, htE]))
 obtain ⟨rfl, _⟩ := znt h2
 repeat' (first
  | ((first | refine zag ?_ | refine zak ?_ | refine zah ?_ | fail); simp [hne, del])
  | (refine zaF (by first | rfl | fail) ?_; simp [hne, del, frzN, frz1, zaC, zaB, St.frz, St.frzS, frzS, fv, zaQ, za2, za3, frzObS, zay, zas, del, frz, za8])
  | fail)
 (refine CallP.pp (zdP l q2 [112, 101, 114, 105, 111, 100] 1 1000 [[100, 97, 121, 115], [59]] 3 _ (by first | omega | simp <;> omega | fail) g1 hl (by simp)) (by first | (simp [hi, hne, del, htE, zaa, getK, zab, zac]; done) | fail) (by rfl) (by first | assumption | (simp; done) | fail) (by rfl) (by simp) (fun period q3 h3 => ?_) (fun pos e q' h3 => ⟨_, Wk.refl _, ?_⟩); rotate_left 1; (focus (rw [h3, PR.zaL] at hR; (refine hpan _ _ ⟨{ n := _, env := [], obs := [(3, pOb l q')], next := 4 }, (Wk.cut rfl (by simp [hn]) (by simp [wkO, zaa, getK, zab, zac, Ob.under, D.under, zad, zae, hi, hne, del, htE, zab, zac, zaa, getK]) (by simp [wkU, zal, zaa, getK, D.under, hi, hne, del, htE, zab, zac, zaa, getK]) (by simp [wkE, zal, zaa, getK, hi, hne, del, htE, zab, zac, zaa, getK])), by simp [hn], ?_⟩; try simp); exact PPost.zaD hR.symm)); rw [h3, PR.bind_ok] at hR; (try simp [hi, hne, del, htE]))
 obtain ⟨_, g3⟩ := zdQ hl h3 g1
 repeat' (first
  | ((first | refine zag ?_ | refine zak ?_ | refine zah ?_ | fail); simp [hne, del])
  | fail)
 have hm := zdR l q3 [108, 97, 115, 116] g3 hl.len
 repeat' (first
  | (refine zag ?_; simp [hne, del])
  | (refine CallP.fE (hm) (by first | rfl | fail) (by first | simp [hne, del] <;> rfl | fail) ?_; (try simp [hne, del]))
  | fail)
 (refine CallP.pp (zlo l q3 [108, 97, 115, 116] 3 _ (by first | omega | simp <;> omega | fail) g3 hl) (by first | (simp [hi, hne, del, htE, zaa, getK, zab, zac]; done) | fail) (by rfl) (by first | assumption | (simp; done) | fail) (by rfl) (by simp) (fun u4 q4 h4 => ?_) (fun pos e q' h4 => ⟨_, Wk.refl _, ?_⟩); rotate_left 1; (focus (rw [h4, PR.zaL] at hR; (refine hpan _ _ ⟨{ n := _, env := [], obs := [(3, pOb l q')], next := 4 }, (Wk.cut rfl (by simp [hn]) (by simp [wkO, zaa, getK, zab, zac, Ob.under, D.under, zad, zae, hi, hne, del, htE, zab, zac, zaa, getK]) (by simp [wkU, zal, zaa, getK, D.under, hi, hne, del, htE, zab, zac, zaa, getK]) (by simp [wkE, zal, zaa, getK, hi, hne, del, htE, zab, zac, zaa, getK])), by simp [hn], ?_⟩; try simp); exact PPost.zaD hR.symm)); rw [h4, PR.bind_ok] at hR; (try simp [hi, hne, del, htE]))
 obtain ⟨rfl, _⟩ := znt h4
 repeat' (first
  | ((first | refine zag ?_ | refine zak ?_ | refine zah ?_ | fail); simp [hne, del])
  | (refine zaF (by first | rfl | fail) ?_; simp [hne, del, frzN, frz1, zaC, zaB, St.frz, St.frzS, frzS, fv, zaQ, za2, za3, frzObS, zay, zas, del, frz, za8])
  | fail)
 (refine CallP.pp (zdP l q4 [108, 97, 115, 116] 1 1000 [[59]] 3 _ (by first | omega | simp <;> omega | fail) g3 hl (by simp)) (by first | (simp [hi, hne, del, htE, zaa, getK, zab, zac]; done) | fail) (by rfl) (by first | assumption | (simp; done) | fail) (by rfl) (by simp) (fun last q5 h5 => ?_) (fun pos e q' h5 => ⟨_, Wk.refl _, ?_⟩); rotate_left 1; (focus (rw [h5, PR.zaL] at hR; (refine hpan _ _ ⟨{ n := _, env := [], obs := [(3, pOb l q')], next := 4 }, (Wk.cut rfl (by simp [hn]) (by simp [wkO, zaa, getK, zab, zac, Ob.under, D.under, zad, zae, hi, hne, del, htE, zab, zac, zaa, getK]) (by simp [wkU, zal, zaa, getK, D.under, hi, hne, del, htE, zab, zac, zaa, getK]) (by simp [wkE, zal, zaa, getK, hi, hne, del, htE, zab, zac, zaa, getK])), by simp [hn], ?_⟩; try simp); exact PPost.zaD hR.symm)); rw [h5, PR.bind_ok] at hR; (try simp [hi, hne, del, htE]))
 obtain ⟨_, g5⟩ := zdQ hl h5 g3
 repeat' (first
  | ((first | refine zag ?_ | refine zak ?_ | refine zah ?_ | fail); simp [hne, del])
  | (refine zaF (by first | rfl | fail) ?_; simp [hne, del, frzN, frz1, zaC, zaB, St.frz, St.frzS, frzS, fv, zaQ, za2, za3, frzObS, zay, zas, del, frz, za8])
  | fail)
 (refine CallP.pp (zdP l q5 [103, 114, 97, 99, 101] 0 1000 [[100, 97, 121, 115], [59]] 3 _ (by first | omega | simp <;> omega | fail) g5 hl (by simp)) (by first | (simp [hi, hne, del, htE, zaa, getK, zab, zac]; done) | fail) (by rfl) (by first | assumption | (simp; done) | fail) (by rfl) (by simp) (fun grace q6 h6 => ?_) (fun pos e q' h6 => ⟨_, Wk.refl _, ?_⟩); rotate_left 1; (focus (rw [h6, PR.zaL] at hR; (refine hpan _ _ ⟨{ n := _, env := [], obs := [(3, pOb l q')], next := 4 }, (Wk.cut rfl (by simp [hn]) (by simp [wkO, zaa, getK, zab, zac, Ob.under, D.under, zad, zae, hi, hne, del, htE, zab, zac, zaa, getK]) (by simp [wkU, zal, zaa, getK, D.under, hi, hne, del, htE, zab, zac, zaa, getK]) (by simp [wkE, zal, zaa, getK, hi, hne, del, htE, zab, zac, zaa, getK])), by simp [hn], ?_⟩; try simp); exact PPost.zaD hR.symm)); rw [h6, PR.bind_ok] at hR; (try simp [hi, hne, del, htE]))
 obtain ⟨_, g6⟩ := zdQ hl h6 g5
 repeat' (first
  | ((first | refine zag ?_ | refine zak ?_ | refine zah ?_ | fail); simp [hne, del])
  | (refine zaF (by first | rfl | fail) ?_; simp [hne, del, frzN, frz1, zaC, zaB, St.frz, St.frzS, frzS, fv, zaQ, za2, za3, frzObS, zay, zas, del, frz, za8])
  | fail)
 (refine CallP.pp (zdP l q6 [119, 97, 105, 116] 0 1000 [[100, 97, 121, 115], [59]] 3 _ (by first | omega | simp <;> omega | fail) g6 hl (by simp)) (by first | (simp [hi, hne, del, htE, zaa, getK, zab, zac]; done) | fail) (by rfl) (by first | assumption | (simp; done) | fail) (by rfl) (by simp) (fun wait q7 h7 => ?_) (fun pos e q' h7 => ⟨_, Wk.refl _, ?_⟩); rotate_left 1; (focus (rw [h7, PR.zaL] at hR; (refine hpan _ _ ⟨{ n := _, env := [], obs := [(3, pOb l q')], next := 4 }, (Wk.cut rfl (by simp [hn]) (by simp [wkO, zaa, getK, zab, zac, Ob.under, D.under, zad, zae, hi, hne, del, htE, zab, zac, zaa, getK]) (by simp [wkU, zal, zaa, getK, D.under, hi, hne, del, htE, zab, zac, zaa, getK]) (by simp [wkE, zal, zaa, getK, hi, hne, del, htE, zab, zac, zaa, getK])), by simp [hn], ?_⟩; try simp); exact PPost.zaD hR.symm)); rw [h7, PR.bind_ok] at hR; (try simp [hi, hne, del, htE]))
 obtain ⟨_, g7⟩ := zdQ hl h7 g6
 repeat' (first
  | ((first | refine zag ?_ | refine zak ?_ | refine zah ?_ | fail); simp [hne, del])
  | fail)
 (refine CallP.pp (znj l q7 3 _ (by first | omega | simp <;> omega | fail) g7 hl) (by first | (simp [hi, hne, del, htE, zaa, getK, zab, zac]; done) | fail) (by rfl) (by first | assumption | (simp; done) | fail) (by rfl) (by simp) (fun order q8 h8 => ?_) (fun pos e q' h8 => ⟨_, Wk.refl _, ?_⟩); rotate_left 1; (focus (rw [h8, PR.zaL] at hR; (refine hpan _ _ ⟨{ n := _, env := [], obs := [(3, pOb l q')], next := 4 }, (Wk.cut rfl (by simp [hn]) (by simp [wkO, zaa, getK, zab, zac, Ob.under, D.under, zad, zae, hi, hne, del, htE, zab, zac, zaa, getK]) (by simp [wkU, zal, zaa, getK, D.under, hi, hne, del, htE, zab, zac, zaa, getK]) (by simp [wkE, zal, zaa, getK, hi, hne, del, htE, zab, zac, zaa, getK])), by simp [hn], ?_⟩; try simp); exact PPost.zaD hR.symm)); rw [h8, PR.bind_ok] at hR; (try simp [hi, hne, del, htE]))
 obtain ⟨_, g8⟩ := znk hl h8 g7
 repeat' (first
  | ((first | refine zag ?_ | refine zak ?_ | refine zah ?_ | fail); simp [hne, del])
  | (refine zaF (by first | rfl | fail) ?_; simp [hne, del, frzN, frz1, zaC, zaB, St.frz, St.frzS, frzS, fv, zaQ, za2, za3, frzObS, zay, zas, del, frz, za8])
  | fail)
 (refine CallP.pp (zdP l q8 [98, 97, 99, 107, 115] 0 60 [[59]] 3 _ (by first | omega | simp <;> omega | fail) g8 hl (by simp)) (by first | (simp [hi, hne, del, htE, zaa, getK, zab, zac]; done) | fail) (by rfl) (by first | assumption | (simp; done) | fail) (by rfl) (by simp) (fun backs q9 h9 => ?_) (fun pos e q' h9 => ⟨_, Wk.refl _, ?_⟩); rotate_left 1; (focus (rw [h9, PR.zaL] at hR; (refine hpan _ _ ⟨{ n := _, env := [], obs := [(3, pOb l q')], next := 4 }, (Wk.cut rfl (by simp [hn]) (by simp [wkO, zaa, getK, zab, zac, Ob.under, D.under, zad, zae, hi, hne, del, htE, zab, zac, zaa, getK]) (by simp [wkU, zal, zaa, getK, D.under, hi, hne, del, htE, zab, zac, zaa, getK]) (by simp [wkE, zal, zaa, getK, hi, hne, del, htE, zab, zac, zaa, getK])), by simp [hn], ?_⟩; try simp); exact PPost.zaD hR.symm)); rw [h9, PR.bind_ok] at hR; (try simp [hi, hne, del, htE]))
 obtain ⟨_, g9⟩ := zdQ hl h9 g8
 repeat' (first
  | ((first | refine zag ?_ | refine zak ?_ | refine zah ?_ | fail); simp [hne, del])
  | (refine zaF (by first | rfl | fail) ?_; simp [hne, del, frzN, frz1, zaC, zaB, St.frz, St.frzS, frzS, fv, zaQ, za2, za3, frzObS, zay, zas, del, frz, za8])
  | fail)
 (refine CallP.pp (zdP l q9 [118, 111, 105, 99, 101, 115] 0 1000 [[112, 101, 114], [109, 105, 108, 108, 101], [59]] 3 _ (by first | omega | simp <;> omega | fail) g9 hl (by simp)) (by first | (simp [hi, hne, del, htE, zaa, getK, zab, zac]; done) | fail) (by rfl) (by first | assumption | (simp; done) | fail) (by rfl) (by simp) (fun voices q10 h10 => ?_) (fun pos e q' h10 => ⟨_, Wk.refl _, ?_⟩); rotate_left 1; (focus (rw [h10, PR.zaL] at hR; (refine hpan _ _ ⟨{ n := _, env := [], obs := [(3, pOb l q')], next := 4 }, (Wk.cut rfl (by simp [hn]) (by simp [wkO, zaa, getK, zab, zac, Ob.under, D.under, zad, zae, hi, hne, del, htE, zab, zac, zaa, getK]) (by simp [wkU, zal, zaa, getK, D.under, hi, hne, del, htE, zab, zac, zaa, getK]) (by simp [wkE, zal, zaa, getK, hi, hne, del, htE, zab, zac, zaa, getK])), by simp [hn], ?_⟩; try simp); exact PPost.zaD hR.symm)); rw [h10, PR.bind_ok] at hR; (try simp [hi, hne, del, htE]))
 obtain ⟨_, g10⟩ := zdQ hl h10 g9
 repeat' (first
  | ((first | refine zag ?_ | refine zak ?_ | refine zah ?_ | fail); simp [hne, del])
  | (refine zaF (by first | rfl | fail) ?_; simp [hne, del, frzN, frz1, zaC, zaB, St.frz, St.frzS, frzS, fv, zaQ, za2, za3, frzObS, zay, zas, del, frz, za8])
  | fail)
 (refine CallP.pp (zdP l q10 [106, 117, 114, 121] 0 60 [[59]] 3 _ (by first | omega | simp <;> omega | fail) g10 hl (by simp)) (by first | (simp [hi, hne, del, htE, zaa, getK, zab, zac]; done) | fail) (by rfl) (by first | assumption | (simp; done) | fail) (by rfl) (by simp) (fun jury q11 h11 => ?_) (fun pos e q' h11 => ⟨_, Wk.refl _, ?_⟩); rotate_left 1; (focus (rw [h11, PR.zaL] at hR; (refine hpan _ _ ⟨{ n := _, env := [], obs := [(3, pOb l q')], next := 4 }, (Wk.cut rfl (by simp [hn]) (by simp [wkO, zaa, getK, zab, zac, Ob.under, D.under, zad, zae, hi, hne, del, htE, zab, zac, zaa, getK]) (by simp [wkU, zal, zaa, getK, D.under, hi, hne, del, htE, zab, zac, zaa, getK]) (by simp [wkE, zal, zaa, getK, hi, hne, del, htE, zab, zac, zaa, getK])), by simp [hn], ?_⟩; try simp); exact PPost.zaD hR.symm)); rw [h11, PR.bind_ok] at hR; (try simp [hi, hne, del, htE]))
 obtain ⟨_, g11⟩ := zdQ hl h11 g10
 repeat' (first
  | ((first | refine zag ?_ | refine zak ?_ | refine zah ?_ | fail); simp [hne, del])
  | (refine zaF (by first | rfl | fail) ?_; simp [hne, del, frzN, frz1, zaC, zaB, St.frz, St.frzS, frzS, fv, zaQ, za2, za3, frzObS, zay, zas, del, frz, za8])
  | fail)
 (refine CallP.pp (zdP l q11 [102, 117, 110, 100] 0 1000 [[112, 101, 114], [109, 105, 108, 108, 101], [59]] 3 _ (by first | omega | simp <;> omega | fail) g11 hl (by simp)) (by first | (simp [hi, hne, del, htE, zaa, getK, zab, zac]; done) | fail) (by rfl) (by first | assumption | (simp; done) | fail) (by rfl) (by simp) (fun fund q12 h12 => ?_) (fun pos e q' h12 => ⟨_, Wk.refl _, ?_⟩); rotate_left 1; (focus (rw [h12, PR.zaL] at hR; (refine hpan _ _ ⟨{ n := _, env := [], obs := [(3, pOb l q')], next := 4 }, (Wk.cut rfl (by simp [hn]) (by simp [wkO, zaa, getK, zab, zac, Ob.under, D.under, zad, zae, hi, hne, del, htE, zab, zac, zaa, getK]) (by simp [wkU, zal, zaa, getK, D.under, hi, hne, del, htE, zab, zac, zaa, getK]) (by simp [wkE, zal, zaa, getK, hi, hne, del, htE, zab, zac, zaa, getK])), by simp [hn], ?_⟩; try simp); exact PPost.zaD hR.symm)); rw [h12, PR.bind_ok] at hR; (try simp [hi, hne, del, htE]))
 obtain ⟨_, g12⟩ := zdQ hl h12 g11
 repeat' (first
  | ((first | refine zag ?_ | refine zak ?_ | refine zah ?_ | fail); simp [hne, del])
  | fail)
 refine zmK _ (Wk.ownC 5 _ 11 137 6 (by decide) rfl rfl) ?_
 simp [St.ownC]
 refine zcg (α := { x : Nat × List Let × Nat // x.1 < l.length ∧ x.2.1.length + x.2.2 = 21 ∧ x.2.1.length ≤ 20 ∧ zhj l 21 q12 [] = zhj l x.2.2 x.1 x.2.1 }) [0, 2, 3] (fun x => [])
  (fun x => [(5, .box [.u (.int .i64 kb.1), .u (.int .i64 period), .u (.int .i64 grace), .u (.int .i64 wait), .u (.int .i64 last), .u (.int .i64 order), .u (.bool kb.2), .u (.int .i64 backs), .u (.int .i64 voices), .u (.int .i64 jury), .u (.int .i64 fund), .vec 14 x.1.2.1.length, .u (.int .i64 0), .u (.int .i64 0), .u (.int .i64 0), .u (.str []), .u .nil, .u (.int .i64 0), .u (.int .i64 0), .u (.int .i64 0), .u (.str []), .u .nil, .u (.int .i64 0), .u (.int .i64 0), .u (.int .i64 0), .u (.str []), .u .nil, .u (.int .i64 0), .u (.int .i64 0), .u (.int .i64 0), .u (.str []), .u .nil, .u (.int .i64 0), .u (.int .i64 0), .u (.int .i64 0), .u (.str []), .u .nil]), (14, .vec 137 6 (rowsD (zgB x.1.2.1))), (4, .box [.u (.int .i64 0), .u (.int .i64 0), .u (.int .i64 0), .u (.int .i64 0), .u (.int .i64 0), .u (.int .i64 0), .u (.bool false), .u (.int .i64 0), .u (.int .i64 0), .u (.int .i64 0), .u (.int .i64 0), .u .nil, .u (.int .i64 0), .u (.int .i64 0), .u (.int .i64 0), .u (.str []), .u .nil, .u (.int .i64 0), .u (.int .i64 0), .u (.int .i64 0), .u (.str []), .u .nil, .u (.int .i64 0), .u (.int .i64 0), .u (.int .i64 0), .u (.str []), .u .nil, .u (.int .i64 0), .u (.int .i64 0), .u (.int .i64 0), .u (.str []), .u .nil, .u (.int .i64 0), .u (.int .i64 0), .u (.int .i64 0), .u (.str []), .u .nil]), (3, pOb l x.1.1)]) 15 (fun x => x.1.2.2) ⟨(q12, [], 21), g12, rfl, by simp, rfl⟩ ?_ ?_
 ·exact (Wk.cut rfl (by simp [hn, St.lp]) (by simp [wkO, St.lp, zaa, getK, Ob.under, D.under, zad, zae, zgB]) (by simp [wkU, St.lp, zal, zaa, getK, D.under, zgB]) (by simp [wkE, St.lp, zal, zaa, getK, zgB] <;> (try (intros; simp_all; done)) <;> (try (intros; omega)) <;> (try grind)))
 rintro ⟨⟨q, acc, g⟩, gq, hg, hg2, hS⟩
 simp only at gq hg hg2 hS
 simp [St.lp, St.only, zal, zaa, getK]
 have hm := zdR l q [108, 101, 116] gq hl.len
 have hAl := znJ acc
 have hsn := zmc acc
 generalize hA : zgB acc = A at *
 have htk : A.take acc.length = A := List.take_of_length_le (by omega)
 obtain ⟨g, rfl⟩ : ∃ g', g = g' + 1 := ⟨g - 1, by omega⟩
 by_cases hb : isB l q [108, 101, 116] = true
 ·have g1q := zbm hl hb
  obtain ⟨t, ht⟩ : ∃ t, l[q + 1]? = some t := ⟨_, List.getElem?_eq_getElem g1q⟩
  have hnx := zcj l (q + 1) t ht hl.len
  rw [zmb ht, if_pos hb] at hS
  rw [hS, PR.zei] at hR
  rw [hb] at hm
  repeat' (first
  | ((first | refine zag ?_ | refine zak ?_ | refine zah ?_ | refine zai ?_ | refine zaA ?_ | fail); simp [hne, del, hAl])
  | (refine zar ?_; simp only [zao])
  | (refine CallP.fE (hm) (by first | rfl | fail) (by first | simp [hne, del, hAl] <;> rfl | fail) ?_; (try simp [hne, del, hAl]))
  | fail)
  (refine CallP.pp (zhv l q (decide ((acc.length : Int) < 20)) 6 3 _ (by first | omega | simp <;> omega | fail) gq hl) (by first | (simp [hi, hne, del, zaa, getK, zab, zac]; done) | fail) (by rfl) (by first | assumption | (simp; done) | fail) (by rfl) (by simp) (fun u20 q20 h20 => ?_) (fun pos e q' h20 => ⟨_, Wk.refl _, ?_⟩); rotate_left 1; (focus (rw [h20, PR.zaL] at hR; (refine hpan _ _ ⟨{ n := _, env := [], obs := [(3, pOb l q')], next := 4 }, (Wk.cut rfl (by simp [hn]) (by simp [wkO, zaa, getK, zab, zac, Ob.under, D.under, zad, zae, hi, hne, del, zab, zac, zaa, getK]) (by simp [wkU, zal, zaa, getK, D.under, hi, hne, del, zab, zac, zaa, getK]) (by simp [wkE, zal, zaa, getK, hi, hne, del, zab, zac, zaa, getK])), by simp [hn], ?_⟩; try simp); exact PPost.zaD hR.symm)); rw [h20, PR.bind_ok] at hR; (try simp [hi, hne, del]))
  obtain ⟨rfl, hlt⟩ := zon h20
  rw [h20, PR.bind_ok] at hS
  rw [PR.zei] at hR
  by_cases hw : t.kind = 1
  case neg =>
   have hc2 := fun e nx' (h : 15 ≤ nx') => zdM l (q20 + 1) t e 3 nx' (by omega) ht hl.len
   have e3 : zmO l (q20 + 1) (decide (t.kind = 1) && zep t.text) 12 = .stop t.pos 12 := by
    unfold zmO zdE; rw [ht]; simp [hw]
   rw [e3, PR.zaL] at hR
   repeat' (first
  | ((first | refine zag ?_ | refine zak ?_ | fail); simp [hne, del, hw])
  | (refine ⟨by omega, ?_⟩)
  | (refine zah ?_; simp [hne, del, hw])
  | (refine CallP.fE (hnx) (by first | rfl | fail) (by first | simp [hne, del, hw] <;> rfl | fail) ?_; (try simp [hne, del, hw]))
  | (refine CallP.zeA (hc2 _ _ (by first | omega | simp <;> omega | fail)) (by first | (simp [hne, del, hw, zaa, getK, zab, zac]; done) | fail) (by rfl) (by first | assumption | (simp; done) | fail) (by rfl) (by simp) ?_; rintro ob' ⟨q', rfl⟩; refine ⟨_, Wk.refl _, ?_⟩)
  | fail)
   (refine hpan _ _ ⟨{ n := _, env := [], obs := [(3, pOb l q')], next := 4 }, (Wk.cut rfl (by simp [hn]) (by simp [wkO, zaa, getK, zab, zac, Ob.under, D.under, zad, zae, hi, hne, zab, zac, zaa, getK]) (by simp [wkU, zal, zaa, getK, D.under, hi, hne, zab, zac, zaa, getK]) (by simp [wkE, zal, zaa, getK, hi, hne, zab, zac, zaa, getK])), by simp [hn], ?_⟩; try simp)
   exact PPost.zaD hR.symm
  have hnm := zgJ t.text
  have e3 : (decide (t.kind = 1) && zep t.text) = zep t.text := by simp [hw]
  rw [e3] at hR hS
  generalize zep t.text = nb at hnm hR hS
  repeat' (first
  | ((first | refine zag ?_ | refine zak ?_ | fail); simp [hne, del, hw])
  | (refine ⟨by omega, ?_⟩)
  | (refine zah ?_; simp [hne, del, hw])
  | (refine CallP.fE (hnx) (by first | rfl | fail) (by first | simp [hne, del, hw] <;> rfl | fail) ?_; (try simp [hne, del, hw]))
  | (refine CallP.fE (hnm) (by first | rfl | fail) (by first | simp [hne, del, hw] <;> rfl | fail) ?_; (try simp [hne, del, hw]))
  | fail)
  (refine CallP.pp (zhv l (q20 + 1) nb 12 3 _ (by first | omega | simp <;> omega | fail) g1q hl) (by first | (simp [hi, hne, del, zaa, getK, zab, zac]; done) | fail) (by rfl) (by first | assumption | (simp; done) | fail) (by rfl) (by simp) (fun u21 q21 h21 => ?_) (fun pos e q' h21 => ⟨_, Wk.refl _, ?_⟩); rotate_left 1; (focus (rw [h21, PR.zaL] at hR; (refine hpan _ _ ⟨{ n := _, env := [], obs := [(3, pOb l q')], next := 4 }, (Wk.cut rfl (by simp [hn]) (by simp [wkO, zaa, getK, zab, zac, Ob.under, D.under, zad, zae, hi, hne, del, zab, zac, zaa, getK]) (by simp [wkU, zal, zaa, getK, D.under, hi, hne, del, zab, zac, zaa, getK]) (by simp [wkE, zal, zaa, getK, hi, hne, del, zab, zac, zaa, getK])), by simp [hn], ?_⟩; try simp); exact PPost.zaD hR.symm)); rw [h21, PR.bind_ok] at hR; (try simp [hi, hne, del]))
  obtain ⟨rfl, hnb⟩ := zon h21
  rw [h21, PR.bind_ok] at hS
  rw [PR.zei] at hR
  have htw := zmZ acc t.text
  have htw : Fun Tryz.prog 90 [.u (.sl (zgB acc)), .fnc (.func 128) [.u (.row [.str t.text] 0)]] (· = .u (.bool (acc.any fun x => decide (x.name = t.text)))) := htw
  rw [hA] at htw
  generalize (acc.any fun x => decide (x.name = t.text)) = tb at htw hR hS
  repeat' (first
  | ((first | refine zag ?_ | refine zak ?_ | refine zah ?_ | fail); simp [hne, del, hw, htk, hAl])
  | (refine CallP.fE (htw) (by first | rfl | fail) (by first | simp [hne, del, hw, htk, hAl] <;> rfl | fail) ?_; (try simp [hne, del, hw, htk, hAl]))
  | fail)
  (refine CallP.pp (zhv l (q20 + 1) (!tb) 5 3 _ (by first | omega | simp <;> omega | fail) g1q hl) (by first | (simp [hi, hne, del, zaa, getK, zab, zac]; done) | fail) (by rfl) (by first | assumption | (simp; done) | fail) (by rfl) (by simp) (fun u22 q22 h22 => ?_) (fun pos e q' h22 => ⟨_, Wk.refl _, ?_⟩); rotate_left 1; (focus (rw [h22, PR.zaL] at hR; (refine hpan _ _ ⟨{ n := _, env := [], obs := [(3, pOb l q')], next := 4 }, (Wk.cut rfl (by simp [hn]) (by simp [wkO, zaa, getK, zab, zac, Ob.under, D.under, zad, zae, hi, hne, del, zab, zac, zaa, getK]) (by simp [wkU, zal, zaa, getK, D.under, hi, hne, del, zab, zac, zaa, getK]) (by simp [wkE, zal, zaa, getK, hi, hne, del, zab, zac, zaa, getK])), by simp [hn], ?_⟩; try simp); exact PPost.zaD hR.symm)); rw [h22, PR.bind_ok] at hR; (try simp [hi, hne, del]))
  obtain ⟨rfl, htb⟩ := zon h22
  rw [h22, PR.bind_ok] at hS
  rw [PR.zei] at hR
  have g2q := hl.fin (q20 + 1) t ht (by omega)
  repeat' (first
  | ((first | refine zag ?_ | refine zak ?_ | fail); simp [hne, del])
  | (refine ⟨by omega, ?_⟩)
  | (refine zah ?_; simp [hne, del])
  | (refine zaF (by first | rfl | fail) ?_; simp [hne, del, frzN, frz1, zaC, zaB, St.frz, St.frzS, frzS, fv, zaQ, za2, za3, frzObS, zay, zas, del, frz, za8])
  | fail)
  (refine CallP.pp (zeC hl [61] (q := q20 + 1 + 1) (i := 3) (by first | omega | simp <;> omega | fail) g2q) (by first | (simp [hi, hne, del, zaa, getK, zab, zac]; done) | fail) (by rfl) (by first | assumption | (simp; done) | fail) (by rfl) (by simp) (fun u23 q23 h23 => ?_) (fun pos e q' h23 => ⟨_, Wk.refl _, ?_⟩); rotate_left 1; (focus (rw [h23, PR.zaL] at hR; (refine hpan _ _ ⟨{ n := _, env := [], obs := [(3, pOb l q')], next := 4 }, (Wk.cut rfl (by simp [hn]) (by simp [wkO, zaa, getK, zab, zac, Ob.under, D.under, zad, zae, hi, hne, del, zab, zac, zaa, getK]) (by simp [wkU, zal, zaa, getK, D.under, hi, hne, del, zab, zac, zaa, getK]) (by simp [wkE, zal, zaa, getK, hi, hne, del, zab, zac, zaa, getK])), by simp [hn], ?_⟩; try simp); exact PPost.zaD hR.symm)); rw [h23, PR.bind_ok] at hR; (try simp [hi, hne, del]))
  obtain ⟨_, g23⟩ := zaW hl _ h23 g2q
  rw [h23, PR.bind_ok] at hS
  rw [PR.zei] at hR
  have hwh := fun nx' (h : 15 ≤ nx') => zgW l q23 3 nx' (by omega) g23 hl hl2
  cases hr : zex l q23 with
  | stop pos e =>
   rw [hr, PR.zaL] at hR
   simp only [hr] at hwh
   repeat' (first
  | (refine zfX (fun nx' h' => hwh nx' (by simp at h'; omega)) (by first | (simp [hne, del, htk, hAl, zaa, getK, zab, zac, zam, zaR]; done) | fail) (by rfl) (by first | assumption | simp) (by rfl) (by simp) ?_ ?_; rintro env' ob' n' hn' ⟨q', rfl⟩; refine ⟨_, Wk.refl _, ?_⟩)
  | (refine zeZ rfl (by simp) ?_; simp)
  | ((first | refine zbX rfl ?_ | refine zak ?_ | fail); simp [hne, del, htk, hAl])
  | (refine zfY (hC _ (by kernel_rfl)) rfl; done)
  | (refine zbU rfl (by kernel_rfl) (by first | (simp [hn]; done) | (simp [hn]; omega) | fail) fun C k hC hk => ?_; simp [hne, del, htk, hAl])
  | fail)
   (refine hpan _ _ ⟨{ n := _, env := [], obs := [(3, pOb l q')], next := 4 }, (Wk.cut rfl (by simp [hn]) (by simp [wkO, zaa, getK, zab, zac, Ob.under, D.under, zad, zae, hi, hne, zab, zac, zaa, getK]) (by simp [wkU, zal, zaa, getK, D.under, hi, hne, zab, zac, zaa, getK]) (by simp [wkE, zal, zaa, getK, hi, hne, zab, zac, zaa, getK])), by simp [hn], ?_⟩; try simp)
   exact PPost.zaD hR.symm
  | ok e r =>
   have hwh := fun nx' h => zdo (hwh nx' h) hr
   obtain ⟨_, g24⟩ := zgY hl hr g23
   rw [hr, PR.bind_ok] at hS
   repeat' (first
  | (refine zhC (fun nx' h' => hwh nx' (by simp at h'; omega)) (by first | (simp [hne, del, htk, hAl, zaa, getK, zab, zac, zam, zaR]; done) | fail) (by rfl) (by first | assumption | simp) (by rfl) (by simp [D.under, Ob.under]) (by simp) ?_; (try simp [hne, del, htk, hAl]))
  | ((first | refine zbX rfl ?_ | refine zdt rfl ?_ | refine zak ?_ | fail); simp [hne, del, htk, hAl])
  | (refine ⟨by omega, ?_⟩)
  | (refine zcw (hC _ (by kernel_rfl)) (hk _ ?_); clear hC hk C k; simp only [zao])
  | (refine zbU rfl (by kernel_rfl) (by first | (simp [hn]; done) | (simp [hn]; omega) | fail) fun C k hC hk => ?_; simp [hne, del, htk, hAl])
  | fail)
   have hlt' : acc.length < 20 := by have := of_decide_eq_true hlt; omega
   refine LoopW.next ⟨(r, acc ++ [⟨t.text, e⟩], g), g24, (by simp; omega), (by simp; omega), hS⟩ (by simp) ?_
   exact (Wk.ren ((fun j => if j = 14 then 18 else j)) rfl (by first | (simp [hn]; done) | (intro i hi; rw [hn] at hi; constructor <;> (try simp) <;> (try (intro _)) <;> omega)) (by simp [ziB, St.lp, zal, zaa, getK, zac, zam, D.under, D.le, D.ren, hsn, htk] <;> (try (intros; simp_all; done)) <;> (try omega)) (by simp [wkR, St.lp, zaa, getK, zac, zam, obR, leU, zbR, zaT, Ob.under, D.under, D.le, D.ren, hsn, htk] <;> (try (intros; simp_all; done)) <;> (try omega)) (by simp [hsn, htk]))
 ·rw [znI hb] at hS
  rw [hS, PR.bind_ok] at hR
  have hb2 : isB l q [108, 101, 116] = false := by simpa using hb
  rw [hb2] at hm
  repeat' (first
  | ((first | refine zag ?_ | refine zak ?_ | refine zah ?_ | refine zai ?_ | fail); simp [hne, del])
  | (refine za6 ?_; simp [zao])
  | (refine CallP.fE (hm) (by first | rfl | fail) (by first | simp [hne, del] <;> rfl | fail) ?_; (try simp [hne, del]))
  | (refine zaF (by first | rfl | fail) ?_; simp [hne, del, frzN, frz1, zaC, zaB, St.frz, St.frzS, frzS, fv, zaQ, za2, za3, frzObS, zay, zas, del, frz, za8])
  | fail)
  (refine CallP.pp (zeC hl [100, 117, 101] (q := q) (i := 3) (by first | omega | simp <;> omega | fail) gq) (by first | (simp [hi, hne, del, zaa, getK, zab, zac]; done) | fail) (by rfl) (by first | assumption | (simp; done) | fail) (by rfl) (by simp) (fun u30 q30 h30 => ?_) (fun pos e q' h30 => ⟨_, Wk.refl _, ?_⟩); rotate_left 1; (focus (rw [h30, PR.zaL] at hR; (refine hpan _ _ ⟨{ n := _, env := [], obs := [(3, pOb l q')], next := 4 }, (Wk.cut rfl (by simp [hn]) (by simp [wkO, zaa, getK, zab, zac, Ob.under, D.under, zad, zae, hi, hne, del, zab, zac, zaa, getK]) (by simp [wkU, zal, zaa, getK, D.under, hi, hne, del, zab, zac, zaa, getK]) (by simp [wkE, zal, zaa, getK, hi, hne, del, zab, zac, zaa, getK])), by simp [hn], ?_⟩; try simp); exact PPost.zaD hR.symm)); rw [h30, PR.bind_ok] at hR; (try simp [hi, hne, del]))
  obtain ⟨_, g30⟩ := zaW hl _ h30 gq
  repeat' (first
  | ((first | refine zag ?_ | refine zak ?_ | refine zah ?_ | fail); simp [hne, del])
  | fail)
  (refine CallP.pp (zgW l q30 3 _ (by first | omega | simp <;> omega | fail) g30 hl hl2) (by first | (simp [hi, hne, del, zeE, Exp.row_eq, zaa, getK, zab, zac]; done) | fail) (by rfl) (by first | assumption | (simp; done) | fail) (by rfl) (by simp) (fun due q31 h31 => ?_) (fun pos e q' h31 => ⟨_, Wk.refl _, ?_⟩); rotate_left 1; (focus (rw [h31, PR.zaL] at hR; (refine hpan _ _ ⟨{ n := _, env := [], obs := [(3, pOb l q')], next := 4 }, (Wk.cut rfl (by simp [hn]) (by simp [wkO, zaa, getK, zab, zac, Ob.under, D.under, zad, zae, hi, hne, del, zeE, Exp.row_eq, zab, zac, zaa, getK]) (by simp [wkU, zal, zaa, getK, D.under, hi, hne, del, zeE, Exp.row_eq, zab, zac, zaa, getK]) (by simp [wkE, zal, zaa, getK, hi, hne, del, zeE, Exp.row_eq, zab, zac, zaa, getK])), by simp [hn], ?_⟩; try simp); exact PPost.zaD hR.symm)); rw [h31, PR.bind_ok] at hR; (try simp [hi, hne, del, zeE, Exp.row_eq]))
  obtain ⟨_, g31⟩ := zgY hl h31 g30
  repeat' (first
  | ((first | refine zag ?_ | refine zak ?_ | refine zah ?_ | fail); simp [hne, del])
  | fail)
  (refine CallP.pp (zfd l q31 [102, 105, 110, 101] 3 _ (by first | omega | simp <;> omega | fail) g31 hl hl2) (by first | (simp [hi, hne, del, zeE, Exp.row_eq, zaa, getK, zab, zac]; done) | fail) (by rfl) (by first | assumption | (simp; done) | fail) (by rfl) (by simp) (fun fine q32 h32 => ?_) (fun pos e q' h32 => ⟨_, Wk.refl _, ?_⟩); rotate_left 1; (focus (rw [h32, PR.zaL] at hR; (refine hpan _ _ ⟨{ n := _, env := [], obs := [(3, pOb l q')], next := 4 }, (Wk.cut rfl (by simp [hn]) (by simp [wkO, zaa, getK, zab, zac, Ob.under, D.under, zad, zae, hi, hne, del, zeE, Exp.row_eq, zab, zac, zaa, getK]) (by simp [wkU, zal, zaa, getK, D.under, hi, hne, del, zeE, Exp.row_eq, zab, zac, zaa, getK]) (by simp [wkE, zal, zaa, getK, hi, hne, del, zeE, Exp.row_eq, zab, zac, zaa, getK])), by simp [hn], ?_⟩; try simp); exact PPost.zaD hR.symm)); rw [h32, PR.bind_ok] at hR; (try simp [hi, hne, del, zeE, Exp.row_eq]))
  obtain ⟨_, g32⟩ := zfe hl h32 g31
  repeat' (first
  | (refine zag ?_; simp [hne, del])
  | fail)
  (refine CallP.pp (zfd l q32 [112, 97, 121] 3 _ (by first | omega | simp <;> omega | fail) g32 hl hl2) (by first | (simp [hi, hne, del, zeE, Exp.row_eq, zaa, getK, zab, zac]; done) | fail) (by rfl) (by first | assumption | (simp; done) | fail) (by rfl) (by simp) (fun pay q33 h33 => ?_) (fun pos e q' h33 => ⟨_, Wk.refl _, ?_⟩); rotate_left 1; (focus (rw [h33, PR.zaL] at hR; (refine hpan _ _ ⟨{ n := _, env := [], obs := [(3, pOb l q')], next := 4 }, (Wk.cut rfl (by simp [hn]) (by simp [wkO, zaa, getK, zab, zac, Ob.under, D.under, zad, zae, hi, hne, del, zeE, Exp.row_eq, zab, zac, zaa, getK]) (by simp [wkU, zal, zaa, getK, D.under, hi, hne, del, zeE, Exp.row_eq, zab, zac, zaa, getK]) (by simp [wkE, zal, zaa, getK, hi, hne, del, zeE, Exp.row_eq, zab, zac, zaa, getK])), by simp [hn], ?_⟩; try simp); exact PPost.zaD hR.symm)); rw [h33, PR.bind_ok] at hR; (try simp [hi, hne, del, zeE, Exp.row_eq]))
  obtain ⟨_, g33⟩ := zfe hl h33 g32
  repeat' (first
  | (refine zag ?_; simp [hne, del])
  | fail)
  (refine CallP.pp (zfd l q33 [99, 111, 118, 101, 114] 3 _ (by first | omega | simp <;> omega | fail) g33 hl hl2) (by first | (simp [hi, hne, del, zeE, Exp.row_eq, zaa, getK, zab, zac]; done) | fail) (by rfl) (by first | assumption | (simp; done) | fail) (by rfl) (by simp) (fun cover q34 h34 => ?_) (fun pos e q' h34 => ⟨_, Wk.refl _, ?_⟩); rotate_left 1; (focus (rw [h34, PR.zaL] at hR; (refine hpan _ _ ⟨{ n := _, env := [], obs := [(3, pOb l q')], next := 4 }, (Wk.cut rfl (by simp [hn]) (by simp [wkO, zaa, getK, zab, zac, Ob.under, D.under, zad, zae, hi, hne, del, zeE, Exp.row_eq, zab, zac, zaa, getK]) (by simp [wkU, zal, zaa, getK, D.under, hi, hne, del, zeE, Exp.row_eq, zab, zac, zaa, getK]) (by simp [wkE, zal, zaa, getK, hi, hne, del, zeE, Exp.row_eq, zab, zac, zaa, getK])), by simp [hn], ?_⟩; try simp); exact PPost.zaD hR.symm)); rw [h34, PR.bind_ok] at hR; (try simp [hi, hne, del, zeE, Exp.row_eq]))
  obtain ⟨_, g34⟩ := zfe hl h34 g33
  repeat' (first
  | (refine zag ?_; simp [hne, del])
  | fail)
  (refine CallP.pp (zfd l q34 [104, 111, 108, 100] 3 _ (by first | omega | simp <;> omega | fail) g34 hl hl2) (by first | (simp [hi, hne, del, zeE, Exp.row_eq, zaa, getK, zab, zac]; done) | fail) (by rfl) (by first | assumption | (simp; done) | fail) (by rfl) (by simp) (fun hold q35 h35 => ?_) (fun pos e q' h35 => ⟨_, Wk.refl _, ?_⟩); rotate_left 1; (focus (rw [h35, PR.zaL] at hR; (refine hpan _ _ ⟨{ n := _, env := [], obs := [(3, pOb l q')], next := 4 }, (Wk.cut rfl (by simp [hn]) (by simp [wkO, zaa, getK, zab, zac, Ob.under, D.under, zad, zae, hi, hne, del, zeE, Exp.row_eq, zab, zac, zaa, getK]) (by simp [wkU, zal, zaa, getK, D.under, hi, hne, del, zeE, Exp.row_eq, zab, zac, zaa, getK]) (by simp [wkE, zal, zaa, getK, hi, hne, del, zeE, Exp.row_eq, zab, zac, zaa, getK])), by simp [hn], ?_⟩; try simp); exact PPost.zaD hR.symm)); rw [h35, PR.bind_ok] at hR; (try simp [hi, hne, del, zeE, Exp.row_eq]))
  obtain ⟨_, g35⟩ := zfe hl h35 g34
  obtain ⟨t, ht⟩ : ∃ t, l[q35]? = some t := ⟨_, List.getElem?_eq_getElem g35⟩
  have hnx := zcj l q35 t ht hl.len
  repeat' (first
  | ((first | refine zag ?_ | refine zak ?_ | refine zah ?_ | fail); simp [hne, del])
  | (refine CallP.fE (hnx) (by first | rfl | fail) (by first | simp [hne, del] <;> rfl | fail) ?_; (try simp [hne, del]))
  | fail)
  (refine CallP.pp (zqZ ht 3 _ (by first | omega | simp <;> omega | fail) hl) (by first | (simp [hi, hne, del, zaa, getK, zab, zac]; done) | fail) (by rfl) (by first | assumption | (simp; done) | fail) (by rfl) (by simp) (fun u36 q36 h36 => ?_) (fun pos e q' h36 => ⟨_, Wk.refl _, ?_⟩); rotate_left 1; (focus (rw [h36, PR.zaL] at hR; (refine hpan _ _ ⟨{ n := _, env := [], obs := [(3, pOb l q')], next := 4 }, (Wk.cut rfl (by simp [hn]) (by simp [wkO, zaa, getK, zab, zac, Ob.under, D.under, zad, zae, hi, hne, del, zab, zac, zaa, getK]) (by simp [wkU, zal, zaa, getK, D.under, hi, hne, del, zab, zac, zaa, getK]) (by simp [wkE, zal, zaa, getK, hi, hne, del, zab, zac, zaa, getK])), by simp [hn], ?_⟩; try simp); exact PPost.zaD hR.symm)); rw [h36, PR.bind_ok] at hR; (try simp [hi, hne, del]))
  obtain rfl := zrX h36
  repeat' (first
  | ((first | refine zag ?_ | refine zak ?_ | refine zah ?_ | fail); simp [hne, del])
  | (refine zau ?_; simp only [zao])
  | fail)
  (refine EndW.frzN 1 ?_; simp [frzN, frz1, zaC, zaB, St.frz, St.frzS, frzS, fv, zaQ, za2, za3, frzObS, zay, zas, del, frz, za8, hAl, htk])
  refine EndW.norm ?_
  simp [St.norm, zbc, zbS, zb6, zb7, hne]
  (refine EndW.here ?_; (first | (refine EndOK.fin (.inr rfl) ?_) | (refine EndOK.fin (.inl rfl) ?_)); simp [zaI, zaf, Tryz.results64, hne, hi]; refine FinOK.cut [(3, pOb l q36)] (4) (by simp [zaa, getK, zab, zac, Ob.under, D.under, zad, zae, hne, hi] <;> omega) (by simp [D.under]) (by simp [hn]) ?_; try simp)
  exact PPost.zcD hR.symm (by simp [zbr, ← hA, zgB]) rfl
end Go.Proofs.YtepiegcjnaohjaaGreatDoor
namespace Go.Proofs.YtepiegcjnaohjaaGreatDoor
open Go Go.VL
def zgV : By := ⟨0, 0, 0, 0, 0, 0, false, 0, 0, 0, 0, [], zgU, zgU, zgU, zgU, zgU⟩
/-- What Parse returns: the bylaws, the place, the error. -/
def zdu (s : W8) : By × Int × Int := match zmM s with
 | .error (p, e) => (zgV, p, e)
 | .ok l => match zq6 l with
  | .stop pos e => (zgV, pos, e)
  | .ok b _ => (b, 0, 0)
def zr2 (r : By × Int × Int) : D := .tup [.u (.agg (zbr r.1)), .u (.int .i64 r.2.1), .u (.int .i64 r.2.2)]
abbrev zpT : Ob := .box [.u (.int .i64 0), .u (.int .i64 0), .u (.int .i64 0), .u (.int .i64 0), .u (.int .i64 0), .u (.int .i64 0), .u (.bool false), .u (.int .i64 0), .u (.int .i64 0), .u (.int .i64 0), .u (.int .i64 0), .u .nil, .u (.int .i64 0), .u (.int .i64 0), .u (.int .i64 0), .u (.str []), .u .nil, .u (.int .i64 0), .u (.int .i64 0), .u (.int .i64 0), .u (.str []), .u .nil, .u (.int .i64 0), .u (.int .i64 0), .u (.int .i64 0), .u (.str []), .u .nil, .u (.int .i64 0), .u (.int .i64 0), .u (.int .i64 0), .u (.str []), .u .nil, .u (.int .i64 0), .u (.int .i64 0), .u (.int .i64 0), .u (.str []), .u .nil]
end Go.Proofs.YtepiegcjnaohjaaGreatDoor
namespace Go.Proofs.YtepiegcjnaohjaaGreatDoor
open Go Go.VL
mutual
def zrP : Exp → Int
 | .mk _ _ _ _ args => znG args + 1
def znG : List Exp → Int
 | [] => 0
 | e :: l => max (zrP e) (znG l)
end
theorem zhS (l : List Int) (a : Int) (ha : 0 ≤ a) : l.foldl max a = max a (l.foldl max 0) := by
 induction l generalizing a with
 | nil => simp; omega
 | cons b l ih => simp only [List.foldl_cons]; rw [ih (max a b) (by omega), ih (max 0 b) (by omega)]; omega
mutual
theorem znH : ∀ e : Exp, zrP e = e.lev
 | .mk op n u s args => by rw [zrP, Exp.zhG, zlt]; rfl
theorem zlt : ∀ l : List Exp, znG l = (l.map Exp.lev).foldl max 0
 | [] => by rw [znG]; rfl
 | e :: l => by
  have := e.lev_pos
  rw [znG, znH, zlt, List.map_cons, List.foldl_cons, zhS (l.map Exp.lev) (max 0 e.lev) (by omega)]
  omega
end
/-- The same az parseX, to be computed with. -/
def zti (s : List UInt8) : Exp × Int × Int := match zmM s with
 | .error (p, e) => (zgU, p, e)
 | .ok l => match zez l (4 * l.length + 3) 0 0 with
  | .stop pos e => (zgU, pos, e)
  | .ok y q => if zrS l q ≠ 0 then (zgU, zdE l q, 12) else if 12 < zrP y then (zgU, zdE l q, 6) else (y, 0, 0)
def zjl (l : List Tok) (p : Nat) : PR Exp := (zez l (4 * l.length + 3) p 0).bind fun e q =>
 if isB l q [59] = true then if zrP e ≤ 12 then .ok e (q + 1) else .stop (zdE l q) 6 else .stop (zdE l q) 12
def zpd (l : List Tok) : Nat → Nat → List Let → PR (List Let)
 | 0, _, _ => .stop 0 0
 | f + 1, p, acc => if isB l p [108, 101, 116] = true then
   if acc.length < 20 then match l[p + 1]? with
    | none => .stop 0 0
    | some t => if t.kind = 1 ∧ zep t.text = true then
          if (acc.any fun x => decide (x.name = t.text)) = true then .stop t.pos 5
          else (zbY l (p + 2) [[61]]).bind fun _ q => (zjl l q).bind fun e r => zpd l f r (acc ++ [⟨t.text, e⟩])
     else .stop t.pos 12
   else .stop (zdE l p) 6
  else .ok acc p
def zgj (l : List Tok) (p : Nat) (word : W8) : PR Exp := if isB l p word = true then zjl l (p + 1) else .ok nothingE p
def zs3 (l : List Tok) : PR By :=
 (zkS l 0).bind fun k p => (zkL l p [112, 101, 114, 105, 111, 100]).bind fun _ p => (zd4 l p [112, 101, 114, 105, 111, 100] 1 1000 [[100, 97, 121, 115], [59]]).bind fun period p =>
 (zkL l p [108, 97, 115, 116]).bind fun _ p => (zd4 l p [108, 97, 115, 116] 1 1000 [[59]]).bind fun last p =>
 (zd4 l p [103, 114, 97, 99, 101] 0 1000 [[100, 97, 121, 115], [59]]).bind fun grace p => (zd4 l p [119, 97, 105, 116] 0 1000 [[100, 97, 121, 115], [59]]).bind fun wait p =>
 (zhb l p).bind fun order p => (zd4 l p [98, 97, 99, 107, 115] 0 60 [[59]]).bind fun backs p => (zd4 l p [118, 111, 105, 99, 101, 115] 0 1000 [[112, 101, 114], [109, 105, 108, 108, 101], [59]]).bind fun voices p =>
 (zd4 l p [106, 117, 114, 121] 0 60 [[59]]).bind fun jury p => (zd4 l p [102, 117, 110, 100] 0 1000 [[112, 101, 114], [109, 105, 108, 108, 101], [59]]).bind fun fund p =>
 (zpd l 21 p []).bind fun lets p => (zbY l p [[100, 117, 101]]).bind fun _ p => (zjl l p).bind fun due p =>
 (zgj l p [102, 105, 110, 101]).bind fun fine p => (zgj l p [112, 97, 121]).bind fun pay p => (zgj l p [99, 111, 118, 101, 114]).bind fun cover p => (zgj l p [104, 111, 108, 100]).bind fun hold p =>
 (zq0 l p).bind fun _ p => .ok ⟨k.1, period, grace, wait, last, order, k.2, backs, voices, jury, fund, lets, due, fine, pay, cover, hold⟩ p
theorem zgX : zex = zjl := by
 funext l p
 unfold zex zjl
 simp only [znH]
theorem zlu (l : List Tok) : ∀ f p acc, zhj l f p acc = zpd l f p acc
 | 0, p, acc => rfl
 | f + 1, p, acc => by
  rw [zhj, zpd, zgX]
  simp only [zlu l f]
  try rfl
theorem zmC : zdZ = zgj := by
 funext l p w
 unfold zdZ zgj
 rw [zgX]
theorem zq5 (l : List Tok) : zq6 l = zs3 l := by
 unfold zq6 zs3
 rw [zgX, zmC]
 simp only [zlu]
def zll (s : W8) : By × Int × Int := match zmM s with
 | .error (p, e) => (zgV, p, e)
 | .ok l => match zs3 l with
  | .stop pos e => (zgV, pos, e)
  | .ok b _ => (b, 0, 0)
theorem zjK (s : W8) : zdu s = zll s := by
 unfold zdu zll
 simp only [zq5]
 try rfl
end Go.Proofs.YtepiegcjnaohjaaGreatDoor
namespace Go.Proofs.YtepiegcjnaohjaaGreatDoor
open Go Go.VL
abbrev zn7 : W8 := [99, 105, 114, 99, 108, 101, 32, 115, 97, 118, 105, 110, 103, 32, 59, 32, 112, 101, 114, 105, 111, 100, 32, 55, 32, 100, 97, 121, 115, 32, 59, 32, 108, 97, 115, 116, 32, 49, 48, 32, 59, 32, 100, 117, 101, 32, 53, 32, 99, 111, 105, 110, 115, 32, 59]
def bG : By := ⟨2, 7, 0, 0, 10, 0, false, 0, 0, 0, 0, [], .mk 0 5 3 [] [], nothingE, nothingE, nothingE, nothingE⟩
theorem gv1 : zll zn7 = (bG, 0, 0) := by kernel_rfl
theorem gv2 : zll [99, 105, 114, 99, 108, 101] = (zgV, 6, 12) := by kernel_rfl
theorem gv3 : (zeg bG).2 = 0 := by kernel_rfl
theorem gv4 : Df.rightL (zk5 bG) 5 = true := by kernel_rfl
theorem gv5 : zcW bG = true := by kernel_rfl
theorem gv6 : Df.Sol (zk5 bG) (fun n => [0, 7, 6, 6, 13].getD n 0) := by
 unfold zk5
 rw [if_pos gv5]
 intro c hc
 simp only [List.mem_cons, List.mem_nil_iff, or_false] at hc
 rcases hc with rfl | rfl | rfl | rfl | rfl | rfl | rfl | rfl | rfl | rfl <;> decide
theorem zlS {l : List Df.Con} {n : Int} {V C E} (h : Df.SolveSpec l n V C E) (hr : Df.rightL l n = true) (y : Nat → Int) (hy : Df.Sol l y) : E = 0 := by
 rcases h with ⟨h1, _⟩ | ⟨_, ⟨_, _, _, _, _, rfl⟩ | ⟨h1, _⟩⟩
 ·rw [hr] at h1; cases h1
 ·rfl
 ·exact absurd hy (h1 y)
end Go.Proofs.YtepiegcjnaohjaaGreatDoor
namespace Go.Proofs.YtepiegcjnaohjaaGreatDoor
open Go Go.VL
attribute [local simp] HS zc7 zb5 evPure opd uOf zaG St.put St.at getK binD binI binS binB nilD aggD zgO zhJ lookD lookR zcE Go.VL.nextD zcG zhP zhK zf0 zb4 mkV zbl zbf zbe zbd zc4 za9 zbt zbG mapEff zdk zfz Key.kk shiftI arith unD convD zdN loadD cellsAt fieldAddrD fieldD indexAddrD indexD sliceD cutD lenD minmaxD nilCheckD buildD fillD zb1 zdf ze2 setAll zcU zeF zcv zhx zcs St.add zaM zbP rowsOf zdH zcJ zam zac zaa zbi zcL zaK entry zbE zbI valD zb8 zcf zgD zdr zds zb2 zbK zaz zaX zbz delAll effD St.effS zc5 zbg zaZ zc6 zbh za1 zch za0 zaS zci zcV zbL zcb zbs zb9 zca zaR mkD zbk zbC zbQ zaz zcu D.ids Op.operands Call.operands zbu makeIfD makeFuncD typeAssertD zhI zdy zdz zhH zcF IntKind.bits zcO List.take_of_length_le List.range_succ
attribute [local irreducible] V G H HD HD2 HD4 zoK RetX zao Eff CallP CallV EndOK Fun Ret FinOK LoopI LoopW EndW
theorem zpY (i j q nx : Nat) (hi : i < nx) (hj : j < nx) (hq : q < nx) (hij : i ≠ j) (hiq : i ≠ q) (hjq : j ≠ q) (p e : Int) (cells : List U) :
  RetDf Tryz.prog 62 [.ptr i 0, .ptr j 0, .ptr q 0] [(i, .box [.u (.int .i64 p)]), (j, .box [.u (.int .i64 e)]), (q, .box (cells.map .u))] nx .returning
   (fun u o n => settle u = .returning ∧ n = nx ∧ o = [(i, .box [.u (.int .i64 p)]), (j, .box [.u (.int .i64 e)]), (q, .box (cells.map .u))]) := by
 have hne := zaU hi
 have hne2 := zaU hj
 have hne3 := zaU hq
 have hc0 := zk4 i j nx hi hj hij p e
 refine RetDf.of_body Tryz.func62 rfl (by simp) (by simp) rfl fun Γ hn => ?_
 simp [entry, zlZ, Tryz.ntmps62]
 refine CallP.x2 hc0 (by simp [getK]) (by simp [getK, hij, Ne.symm hij]) hij rfl rfl (by simp) (by simp) (fun d o1 nx' hnx h => ?_) (fun ch o1 nx' hnx h => by cases h.1)
 obtain ⟨h1, rfl, h4⟩ := h
 have h4 := h4.symm
 subst h4
 cases h1
 simp [del, hij, Ne.symm hij, hiq, hjq, Ne.symm hiq, Ne.symm hjq]
 repeat' (first
  | (refine zai ?_; simp [hij, hiq, hjq])
  | (refine zar ?_; simp only [zao])
  | fail)
 (refine ⟨by simp, { n := _, env := [], obs := [(i, .box [.u (.int .i64 p)]), (j, .box [.u (.int .i64 e)]), (q, .box (cells.map .u))], next := nx }, (Wk.cut rfl (by simp [hn]) (by simp [wkO, zaa, getK, zab, zac, Ob.under, D.under, zad, zae, hi, hj, hq, hne, hne2, hne3, hij, hiq, hjq, Ne.symm hij, Ne.symm hiq, Ne.symm hjq]) (by simp [wkU, zal, zaa, getK, D.under, hi, hj, hq, hne, hne2, hne3, hij, hiq, hjq, Ne.symm hij, Ne.symm hiq, Ne.symm hjq]) (by simp [wkE, zal, zaa, getK, hi, hj, hq, hne, hne2, hne3, hij, hiq, hjq, Ne.symm hij, Ne.symm hiq, Ne.symm hjq])), by simp [hn], ?_⟩; try simp)
 all_goals rfl
theorem zpZ (i j q nx : Nat) (hi : i < nx) (hj : j < nx) (hq : q < nx) (hij : i ≠ j) (hiq : i ≠ q) (hjq : j ≠ q) (p e pos err : Int) :
  RetDf Tryz.prog 62 [.ptr i 0, .ptr j 0, .ptr q 0] [(i, .box [.u (.int .i64 p)]), (j, .box [.u (.int .i64 e)]), (q, zpT)] nx (.panicking (chP pos err))
   (fun u o n => settle u = .returning ∧ n = nx ∧ o = [(i, .box [.u (.int .i64 pos)]), (j, .box [.u (.int .i64 err)]), (q, zpT)]) := by
 have hne := zaU hi
 have hne2 := zaU hj
 have hne3 := zaU hq
 have hc0 := zk3 i j nx hi hj hij p e pos err
 refine RetDf.of_body Tryz.func62 rfl (by simp) (by simp) rfl fun Γ hn => ?_
 simp [entry, zlZ, chP, Tryz.ntmps62]
 refine CallP.x2 hc0 (by simp [getK]) (by simp [getK, hij, Ne.symm hij]) hij rfl rfl (by simp) (by simp) (fun d o1 nx' hnx h => ?_) (fun ch o1 nx' hnx h => by cases h.1)
 obtain ⟨h1, rfl, h4⟩ := h
 have h4 := h4.symm
 subst h4
 cases h1
 simp [del, hij, Ne.symm hij, hiq, hjq, Ne.symm hiq, Ne.symm hjq]
 repeat' (first
  | ((first | refine zag ?_ | refine zak ?_ | refine zai ?_ | refine zat ?_ | fail); simp [hij, hiq, hjq])
  | fail)
 (refine ⟨by simp, { n := _, env := [], obs := [(i, .box [.u (.int .i64 pos)]), (j, .box [.u (.int .i64 err)]), (q, zpT)], next := nx }, (Wk.cut rfl (by simp [hn]) (by simp [wkO, zaa, getK, zab, zac, Ob.under, D.under, zad, zae, hi, hj, hq, hne, hne2, hne3, hij, hiq, hjq, Ne.symm hij, Ne.symm hiq, Ne.symm hjq]) (by simp [wkU, zal, zaa, getK, D.under, hi, hj, hq, hne, hne2, hne3, hij, hiq, hjq, Ne.symm hij, Ne.symm hiq, Ne.symm hjq]) (by simp [wkE, zal, zaa, getK, hi, hj, hq, hne, hne2, hne3, hij, hiq, hjq, Ne.symm hij, Ne.symm hiq, Ne.symm hjq])), by simp [hn], ?_⟩; try simp)
 all_goals rfl
theorem znf (s : W8) : RetX Tryz.prog 25 [.u (.str s)] [] 0 (fun r o n => r = .val (zr2 (zdu s))) := by
 skip
 unfold zdu
 cases hlx : zmM s with
 | error pe =>
  obtain ⟨p, e⟩ := pe
  have ho := fun nx => zo4 s p e nx hlx
  have he := (zpc hlx).1
  simp only
  (refine RetX.zgS Tryz.func25 rfl (by simp) fun Γ hn hdfr hpan hesc => ?_); simp only [entry, ziC, ziN, maC, maN, oA, Tryz.ntmps25]
  repeat' (first
  | ((first | refine zag ?_ | refine zbX rfl ?_ | refine zdt rfl ?_ | refine zak ?_ | refine zah ?_ | refine zai ?_ | fail); simp [he])
  | (refine zcw (hC _ (by kernel_rfl)) (hk _ ?_); clear hC hk C k; simp only [zao])
  | (refine zbU rfl (by kernel_rfl) (by first | (simp [hn]; done) | (simp [hn]; omega) | fail) fun C k hC hk => ?_; simp [he])
  | (refine zau ?_; simp only [zao])
  | (refine CallP.okL (ho _) (by first | (simp [he, zaa, getK, zab, zac, zam, zaR, del]; done) | fail) (by rfl) (by rfl) ?_; (try simp [he, zkY, del]))
  | fail)
  refine EndW.norm ?_
  simp [St.norm, zbc, zbS, zb6, zb7]
  (refine EndW.here ?_; (first | (refine EndOK.fin (.inr rfl) ?_) | (refine EndOK.fin (.inl rfl) ?_)); simp [zaI, zaf, Tryz.results25]; refine FinOK.here (by simp) ?_; try simp)
  simp [zr2, zbr, zgV, zgU, Exp.op, Exp.n, Exp.unit, Exp.s, Exp.args]
 | ok l =>
  obtain ⟨hl, hl2, hl0⟩ := zqL hlx
  have ho := fun nx => zqG s l nx hlx
  have hE := zmI l hl0 hl hl2
  simp only
  cases hr : zq6 l with
  | stop pos e =>
   simp only [hr] at hE ⊢
   (refine RetX.zgS Tryz.func25 rfl (by simp) fun Γ hn hdfr hpan hesc => ?_); simp only [entry, ziC, ziN, maC, maN, oA, Tryz.ntmps25]
   rw [zil]
   repeat' (first
  | ((first | refine zag ?_ | refine zak ?_ | refine zah ?_ | refine zai ?_ | fail); simp)
  | (refine zar ?_; simp only [zao])
  | (refine CallP.okL (ho _) (by first | (simp [zaa, getK, zab, zac, zam, zaR, del]; done) | fail) (by rfl) (by rfl) ?_; (try simp [zkY, del]))
  | fail)
   refine zoF hesc hdfr rfl (by simp) ?_
   have hn0 := hn
   have hpan0 := hpan
   intro Γ' hn hpan
   simp
   repeat' (first
  | ((first | refine zag ?_ | refine zah ?_ | fail); simp)
  | (refine CallP.zeA (hE) (by first | (simp [zaa, getK, zab, zac]; done) | fail) (by rfl) (by first | assumption | (simp; done) | fail) (by rfl) (by simp) ?_; rintro ob' ⟨q', rfl⟩; refine ⟨_, Wk.refl _, ?_⟩)
  | fail)
   refine hpan _ _ ?_
   refine LeaveD.of [(1, .box [.u (.int .i64 0)]), (2, .box [.u (.int .i64 0)]), (0, zpT)] (by simp [zaa, getK, zab, zac]) (zpZ 1 2 0 _ (by simp) (by simp) (by simp) (by decide) (by decide) (by decide) 0 0 _ _) ?_
   simp only [show Γ.base.n0 = 0 from hn0]
   simp [zkY, del]
   refine EndW.norm ?_
   simp [St.norm, zbc, zbS, zb6, zb7]
   (refine EndW.here ?_; (first | (refine EndOK.fin (.inr rfl) ?_) | (refine EndOK.fin (.inl rfl) ?_)); simp [zaI, zaf, Tryz.results25]; refine FinOK.here (by simp) ?_; try simp)
   simp [zr2, zbr, zgV, zgU, Exp.op, Exp.n, Exp.unit, Exp.s, Exp.args]
  | ok b q =>
   have hEx : RetX Tryz.prog 64 [.ptr 3 0] [(3, pOb l 0)] 4 (fun r o n => r = .val (.u (.agg (zbr b))) ∧ o = [(3, pOb l q)] ∧ n = 4) := by
    rw [hr] at hE
    exact hE
   unfold zbr at hEx
   (refine RetX.zgS Tryz.func25 rfl (by simp) fun Γ hn hdfr hpan hesc => ?_); simp only [entry, ziC, ziN, maC, maN, oA, Tryz.ntmps25]
   rw [zil]
   repeat' (first
  | ((first | refine zag ?_ | refine zak ?_ | refine zah ?_ | refine zai ?_ | fail); simp)
  | (refine zar ?_; simp only [zao])
  | (refine CallP.okL (ho _) (by first | (simp [zaa, getK, zab, zac, zam, zaR, del]; done) | fail) (by rfl) (by rfl) ?_; (try simp [zkY, del]))
  | fail)
   refine zoF hesc hdfr rfl (by simp) ?_
   have hn0 := hn
   have hpan0 := hpan
   intro Γ' hn hpan
   simp
   repeat' (first
  | ((first | refine zag ?_ | refine zak ?_ | refine zah ?_ | fail); simp [del])
  | (refine zau ?_; simp only [zao])
  | (refine CallP.ok1 (hEx) (by first | (simp [del, zaa, getK, zab, zac]; done) | fail) (by rfl) (by rfl) ?_; (try simp [del]))
  | fail)
   refine ⟨rfl, ?_⟩
   refine LeaveD.of [(1, .box [.u (.int .i64 0)]), (2, .box [.u (.int .i64 0)]), (0, .box ((zbr b).map .u))] (by simp [zaa, getK, zab, zac, zbr]) (zpY 1 2 0 _ (by simp) (by simp) (by simp) (by decide) (by decide) (by decide) 0 0 _) ?_
   simp only [show Γ.base.n0 = 0 from hn0]
   simp [zkY, del, zbr]
   (refine EndW.here ?_; (first | (refine EndOK.fin (.inr rfl) ?_) | (refine EndOK.fin (.inl rfl) ?_)); simp [zaI, zaf, Tryz.results25]; refine FinOK.here (by simp) ?_; try simp)
   simp [zr2, zbr]
theorem zng (s : W8) : Fun Tryz.prog 25 [.u (.str s)] (· = .tup [byD (zdu s).1, .u (.int .i64 (zdu s).2.1), .u (.int .i64 (zdu s).2.2)]) := by
 unfold Fun
 exact (znf s).ret (fun d o n h => by
  cases h
  exact ⟨by simp [zr2, zaw], rfl⟩) (fun ch o n h => by cases h)
end Go.Proofs.YtepiegcjnaohjaaGreatDoor
namespace Go.Proofs.YtepiegcjnaohjaaGreatDoor
open Go Go.VL
open Df (Con)
attribute [local simp] zc7 zb5 evPure opd uOf zaG St.put St.at getK binD binI binS binB nilD aggD zgO zhJ lookD lookR zcE Go.VL.nextD zcG zhP zhK zf0 zb4 mkV zbl zbf zbe zbd zc4 za9 zbt zbG mapEff zdk zfz Key.kk shiftI arith unD convD zdN loadD cellsAt fieldAddrD fieldD indexAddrD indexD sliceD cutD lenD minmaxD nilCheckD buildD fillD zb1 zdf ze2 setAll zcU zeF zcv zhx zcs St.add zaM zbP rowsOf zdH zcJ zam zac zaa zbi zcL zaK entry zbE zbI valD zb8 zcf zgD zdr zds zb2 zbK zaz zaX zbz delAll effD St.effS zc5 zbg zaZ zc6 zbh za1 zch za0 zaS zci zcV zbL zcb zbs zb9 zca zaR mkD zbk zbC zbQ zaz zcu D.ids Op.operands Call.operands zbu makeIfD makeFuncD typeAssertD zhI zdy zdz zhH zcF IntKind.bits zcO List.take_of_length_le List.range_succ
attribute [local irreducible] V G H HD HD2 zao Eff CallP CallV EndOK Fun Ret FinOK LoopI LoopW EndW
theorem zq4 (b : By) : Fun Tryz.prog 27 [.u (.agg (zbr b))] (· = .u (Df.consU (zk5 b))) := by
 have hri := zg5 b
 unfold zk5 Df.consU
 cases hb : zcW b with
 | false =>
  rw [hb] at hri
  rw [if_neg (by simp)]
  unfold zbr at hri ⊢
  (refine Fun.of_bodyW Tryz.func27 rfl (by simp) fun Γ hn => ?_); simp only [entry, ziC, ziN, maC, maN, oA, Tryz.ntmps27]
  repeat' (first
  | ((first | refine zag ?_ | refine zak ?_ | refine zah ?_ | refine zai ?_ | fail); simp)
  | (refine zau ?_; simp only [zao])
  | (refine CallP.fE (hri) (by first | rfl | fail) (by first | (simp; done) | (simp; rfl) | fail) ?_; (try simp))
  | fail)
  refine EndW.norm (EndW.here ?_)
  (refine EndOK.val (.inr rfl) ?_; simp [zaI, zaf, zaw, Tryz.results27, zaB, zaC, zcp, zcq, frz, za8, frzS, fv, zaQ, za2, za3, frzObS, zay, zas, zbS, zb6, zb7, zbc])
 | true =>
  rw [hb] at hri
  rw [if_pos rfl]
  have hh := hb
  simp only [zcW, zqQ, zqX, Bool.and_eq_true, decide_eq_true_eq] at hh
  obtain ⟨⟨⟨⟨⟨⟨⟨⟨i1, i2⟩, i3⟩, i4⟩, i5⟩, hsl⟩, hLn⟩, hLb⟩, _⟩ := hh
  simp only [inB, List.any_cons, List.any_nil, Bool.or_false, Bool.not_eq_true', Bool.or_eq_false_iff, decide_eq_false_iff_not, Int.not_lt] at i1 i2 i3 i4 i5
  clear hLb hb
  unfold zbr at hri ⊢
  (refine Fun.of_bodyW Tryz.func27 rfl (by simp) fun Γ hn => ?_); simp only [entry, ziC, ziN, maC, maN, oA, Tryz.ntmps27]
  repeat' (first
  | ((first | refine zag ?_ | refine zak ?_ | fail); simp)
  | (refine ⟨by omega, ?_⟩)
  | ((first | refine zah ?_ | refine zai ?_ | fail); simp)
  | ((first | refine zau ?_ | refine zar ?_ | fail); simp only [zao])
  | (refine CallP.fE (hri) (by first | rfl | fail) (by first | (simp; done) | (simp; rfl) | fail) ?_; (try simp))
  | fail)
  (refine EndW.frzN 1 ?_; simp [frzN, frz1, zaC, zaB, St.frz, St.frzS, frzS, fv, zaQ, za2, za3, frzObS, zay, zas, del, frz, za8])
  refine EndW.norm (EndW.here ?_)
  (refine EndOK.val (.inr rfl) ?_; simp [zaI, zaf, zaw, Tryz.results27, zaB, zaC, zcp, zcq, frz, za8, frzS, fv, zaQ, za2, za3, frzObS, zay, zas, zbS, zb6, zb7, zbc])
/-- What rules.Check says. -/
def ChkS (text : W8) (members R : Int) : Prop :=
 (members < 1 ∨ 60 < members) ∧ R = 1 ∨ (1 ≤ members ∧ members ≤ 60) ∧ ((zdu text).2.2 ≠ 0 ∧ R = (zdu text).2.2 ∨ (zdu text).2.2 = 0 ∧ ((zeg (zdu text).1).2 ≠ 0 ∧ R = (zeg (zdu text).1).2 ∨
   (zeg (zdu text).1).2 = 0 ∧ zcW (zdu text).1 = true ∧ ∃ V C E, Df.SolveSpec (zk5 (zdu text).1) 5 V C E ∧ R = if E = 0 then 0 else 23))
theorem ChkS.one {text : W8} {m R R' : Int} (h : ChkS text m R) (h' : ChkS text m R') : R = R' := by
 rcases h with ⟨h1, rfl⟩ | ⟨h1, ⟨h2, rfl⟩ | ⟨h2, ⟨h3, rfl⟩ | ⟨h3, h6, V, C, E, h4, h5⟩⟩⟩ <;> rcases h' with ⟨g1, rfl⟩ | ⟨g1, ⟨g2, rfl⟩ | ⟨g2, ⟨g3, rfl⟩ | ⟨g3, g6, V', C', E', g4, g5⟩⟩⟩ <;> first | rfl | omega | skip
 ·obtain ⟨rfl, _⟩ := h4.one g4 (fun _ => Iff.rfl) rfl
  rw [h5, g5]
theorem zkh {b : By} (h : (zeg b).2 = 0) : zcW b = true := by
 cases hb : zcW b with
 | true => rfl
 | false => rw [zeg, if_pos hb] at h; cases h
theorem zem (text : W8) (members : Int) : ∃ R, ChkS text members R ∧ Fun Tryz.prog 19 [.u (.str text), .u (.int .i64 members)] (· = .u (.int .i64 R)) := by
 have hp := zng text
 unfold ChkS
 by_cases h1 : members < 1
 ·refine ⟨1, .inl ⟨.inl h1, rfl⟩, ?_⟩
  (refine Fun.of_body Tryz.func19 rfl (by simp) fun Γ hn => ?_); simp only [entry, ziC, ziN, maC, maN, oA, Tryz.ntmps19]
  repeat' (first
  | ((first | refine zag ?_ | refine zak ?_ | refine zah ?_ | refine zai ?_ | fail); simp [h1])
  | (refine zau ?_; simp only [zao])
  | fail)
  (refine EndOK.val (.inr rfl) ?_; simp [zaI, zaf, zaw, Tryz.results19])
 by_cases h2 : 60 < members
 ·refine ⟨1, .inl ⟨.inr h2, rfl⟩, ?_⟩
  (refine Fun.of_body Tryz.func19 rfl (by simp) fun Γ hn => ?_); simp only [entry, ziC, ziN, maC, maN, oA, Tryz.ntmps19]
  repeat' (first
  | ((first | refine zag ?_ | refine zak ?_ | refine zah ?_ | refine zai ?_ | fail); simp [h1, h2])
  | (refine zau ?_; simp only [zao])
  | fail)
  (refine EndOK.val (.inr rfl) ?_; simp [zaI, zaf, zaw, Tryz.results19])
 have hm : 1 ≤ members ∧ members ≤ 60 := by omega
 generalize zdu text = PB at *
 obtain ⟨b, pb, e⟩ := PB
 simp only at hp ⊢
 by_cases h3 : e = 0
 case neg =>
  refine ⟨e, .inr ⟨hm, .inl ⟨h3, rfl⟩⟩, ?_⟩
  unfold byD zbr at hp
  (refine Fun.of_body Tryz.func19 rfl (by simp) fun Γ hn => ?_); simp only [entry, ziC, ziN, maC, maN, oA, Tryz.ntmps19]
  repeat' (first
  | ((first | refine zag ?_ | refine zak ?_ | refine zah ?_ | refine zai ?_ | fail); simp [h1, h2, h3])
  | ((first | refine zau ?_ | refine zar ?_ | fail); simp only [zao])
  | (refine CallP.fE (hp) (by first | rfl | fail) (by first | simp [h1, h2, h3] <;> rfl | fail) ?_; (try simp [h1, h2, h3]))
  | fail)
  (refine EndOK.val (.inr rfl) ?_; simp [zaI, zaf, zaw, Tryz.results19])
 subst h3
 have hc := zmD b
 by_cases h4 : (zeg b).2 = 0
 case neg =>
  refine ⟨(zeg b).2, .inr ⟨hm, .inr ⟨rfl, .inl ⟨h4, rfl⟩⟩⟩, ?_⟩
  generalize zeg b = CP at *
  have hcc := hc
  clear hc
  unfold byD zbr at hp
  unfold zbr at hcc
  (refine Fun.of_body Tryz.func19 rfl (by simp) fun Γ hn => ?_); simp only [entry, ziC, ziN, maC, maN, oA, Tryz.ntmps19]
  repeat' (first
  | ((first | refine zag ?_ | refine zak ?_ | refine zah ?_ | refine zai ?_ | fail); simp [h1, h2, h4])
  | ((first | refine zau ?_ | refine zar ?_ | fail); simp only [zao])
  | (refine CallP.fE (hp) (by first | rfl | fail) (by first | simp [h1, h2, h4] <;> rfl | fail) ?_; (try simp [h1, h2, h4]))
  | (refine CallP.fE (hcc) (by first | rfl | fail) (by first | simp [h1, h2, h4] <;> rfl | fail) ?_; (try simp [h1, h2, h4]))
  | fail)
  (refine EndOK.val (.inr rfl) ?_; simp [zaI, zaf, zaw, Tryz.results19])
 have hr := zkh h4
 have hcal := zq4 b
 have hrows := zpR b
 have hlen := zq3 b
 have hmany := zpS hr
 have hrng := zhf hrows
 obtain ⟨V, C, E, hS, hF⟩ := Df.solve_ex (zk5 b) 5 (by show (5 + 1) * (5 * (zk5 b).length) ≤ _; omega)
 refine ⟨if E = 0 then 0 else 23, .inr ⟨hm, .inr ⟨rfl, .inr ⟨h4, hr, V, C, E, hS, rfl⟩⟩⟩, ?_⟩
 have hcc := hc
 rw [h4] at hcc
 clear hS hc h4
 generalize (zeg b).1 = CW at hcc
 generalize zk5 b = L at *
 unfold byD zbr at hp
 unfold zbr at hcc hcal
 simp only [Df.consU, Df.ints] at hcal hF
 (refine Fun.of_body Tryz.func19 rfl (by simp) fun Γ hn => ?_); simp only [entry, ziC, ziN, maC, maN, oA, Tryz.ntmps19]
 repeat' (first
  | ((first | refine zag ?_ | refine zak ?_ | refine zah ?_ | refine zai ?_ | refine zaA ?_ | fail); simp [h1, h2])
  | (refine zar ?_; simp only [zao])
  | (refine CallP.fE (hp) (by first | rfl | fail) (by first | simp [h1, h2] <;> rfl | fail) ?_; (try simp [h1, h2]))
  | (refine CallP.fE (hcc) (by first | rfl | fail) (by first | simp [h1, h2] <;> rfl | fail) ?_; (try simp [h1, h2]))
  | (refine CallP.fE (hcal) (by first | rfl | fail) (by first | simp [h1, h2] <;> rfl | fail) ?_; (try simp [h1, h2]))
  | fail)
 refine zbT (α := { i : Nat // i ≤ L.length }) [10, 42, 43] (fun i => [(11, .u (.int .i64 (zhO (L.take i.1)))), (44, .u (.int .i64 i.1))]) (fun i => L.length - i.1) ⟨0, by omega⟩ ?_ ?_
 ·exact (Wk.env rfl rfl rfl (by simp [wkE, St.lp, zal, zaa, getK, zhO] <;> (try (intros; simp_all; done)) <;> (try (intros; omega)) <;> (try grind)))
 rintro ⟨i, hi⟩
 simp [St.lp, St.only, zal, zaa, getK]
 rcases hx : L[i]? with _ | c
 ·have hge : L.length ≤ i := by simpa using hx
  obtain rfl : i = L.length := by omega
  simp only [List.take_length, hmany]
  by_cases hE : E = 0
  ·rw [if_pos hE]
   repeat' (first
  | ((first | refine zag ?_ | refine zak ?_ | refine zah ?_ | refine zai ?_ | fail); simp [hx, hE])
  | ((first | refine zau ?_ | refine zar ?_ | fail); simp only [zao])
  | (refine za6 ?_; simp [zao])
  | (refine CallP.fE (hF) (by first | rfl | fail) (by first | simp [hx, hE] <;> rfl | fail) ?_; (try simp [hx, hE]))
  | fail)
   (refine EndOK.val (.inr rfl) ?_; simp [zaI, zaf, zaw, Tryz.results19])
  ·rw [if_neg hE]
   repeat' (first
  | ((first | refine zag ?_ | refine zak ?_ | refine zah ?_ | refine zai ?_ | fail); simp [hx, hE])
  | (refine zau ?_; simp only [zao])
  | (refine za6 ?_; simp [zao])
  | (refine CallP.fE (hF) (by first | rfl | fail) (by first | simp [hx, hE] <;> rfl | fail) ?_; (try simp [hx, hE]))
  | fail)
   (refine EndOK.val (.inr rfl) ?_; simp [zaI, zaf, zaw, Tryz.results19])
 ·have hlt : i < L.length := (lGE.1 hx).1
  obtain ⟨q1, q2, q3, q4⟩ := hrows c (List.mem_of_getElem? hx)
  have q5 := hrng i hi
  have hst := zif hx
  rw [zo8] at hst
  generalize zhO (L.take i) = M at *
  repeat' (first
  | ((first | refine zag ?_ | refine zak ?_ | fail); simp [hx])
  | (refine ⟨by omega, ?_⟩)
  | ((first | refine zah ?_ | refine zat ?_ | fail); simp [hx])
  | (refine zar ?_; simp only [zao])
  | (refine ⟨?_, by omega⟩)
  | (intro hc <;> (try (exfalso; omega)))
  | fail)
  refine LoopW.next ⟨i + 1, by omega⟩ (by simp; omega) ?_
  exact (Wk.cut rfl (by simp [hn, St.lp]) (by simp [wkO, St.lp, zaa, getK, Ob.under, D.under, zad, zae, hst]) (by simp [wkU, St.lp, zal, zaa, getK, D.under, hst]) (by simp [wkE, St.lp, zal, zaa, getK, hst] <;> (try (intros; simp_all; done)) <;> (try (intros; omega)) <;> (try grind)))
end Go.Proofs.YtepiegcjnaohjaaGreatDoor
namespace Go.Proofs.YtepiegcjnaohjaaGreatDoor
open Go Go.VL
attribute [local simp] HS zc7 zb5 evPure opd uOf zaG St.put St.at getK binD binI binS binB nilD aggD zgO zhJ lookD lookR zcE Go.VL.nextD zcG zhP zhK zf0 zb4 mkV zbl zbf zbe zbd zc4 za9 zbt zbG mapEff zdk zfz Key.kk shiftI arith unD convD zdN loadD cellsAt fieldAddrD fieldD indexAddrD indexD sliceD cutD lenD minmaxD nilCheckD buildD fillD zb1 zdf ze2 setAll zcU zeF zcv zhx zcs St.add zaM zbP rowsOf zdH zcJ zam zac zaa zbi zcL zaK entry zbE zbI valD zb8 zcf zgD zdr zds zb2 zbK zaz zaX zbz delAll effD St.effS zc5 zbg zaZ zc6 zbh za1 zch za0 zaS zci zcV zbL zcb zbs zb9 zca zaR mkD zbk zbC zbQ zaz zcu D.ids Op.operands Call.operands zbu makeIfD makeFuncD typeAssertD zhI zdy zdz zhH zcF IntKind.bits zcO List.take_of_length_le List.range_succ
attribute [local irreducible] V G H HD HD2 HD4 zoK RetX zao Eff CallP CallV EndOK Fun Ret FinOK LoopI LoopW EndW
theorem zpL : Fun Tryz.prog 19 [.u (.str zn7), .u (.int .i64 5)] (· = .u (.int .i64 0)) := by
 obtain ⟨R, hS, hF⟩ := zem zn7 5
 have hR : R = 0 := by
  unfold ChkS at hS
  rw [zjK, gv1] at hS
  rcases hS with ⟨h1, _⟩ | ⟨h1, ⟨h2, _⟩ | ⟨h2, ⟨h3, _⟩ | ⟨h3, h6, V, C, E, h4, rfl⟩⟩⟩
  ·omega
  ·exact absurd rfl h2
  ·exact absurd gv3 h3
  ·rw [if_pos (zlS h4 gv4 _ gv6)]
 rw [hR] at hF
 exact hF
theorem zpK : Fun Tryz.prog 19 [.u (.str zn7), .u (.int .i64 0)] (· = .u (.int .i64 1)) := by
 obtain ⟨R, hS, hF⟩ := zem zn7 0
 have hR : R = 1 := by
  rcases hS with ⟨_, rfl⟩ | ⟨h1, _⟩
  ·rfl
  ·omega
 rw [hR] at hF
 exact hF
theorem zq1 : Fun Tryz.prog 19 [.u (.str [99, 105, 114, 99, 108, 101]), .u (.int .i64 5)] (· = .u (.int .i64 12)) := by
 obtain ⟨R, hS, hF⟩ := zem [99, 105, 114, 99, 108, 101] 5
 have hR : R = 12 := by
  unfold ChkS at hS
  rw [zjK, gv2] at hS
  rcases hS with ⟨h1, _⟩ | ⟨h1, ⟨h2, rfl⟩ | ⟨h2, _⟩⟩
  ·omega
  ·rfl
  ·cases h2
 rw [hR] at hF
 exact hF
def l4 : List Lw := [⟨5, 3, [97]⟩, ⟨6, 3, [98]⟩, ⟨8, 6, [99]⟩, ⟨9, 5, [100]⟩]
theorem zm4 : Fun Tryz.prog 11 [] (· = .u (.bool true)) := by
 have c1 := zfP 3 l4 (by decide)
 rw [show zgu 3 l4 = 9 by rfl, show zgx 3 l4 = [1, 2] by rfl] at c1
 have c2 := zfP 3 [] (by decide)
 rw [show zgu 3 [] = 3 by rfl, show zgx 3 [] = [] by rfl] at c2
 have c3 := zhw 3 l4 (by decide)
 rw [show zc1 3 l4 = [3, 5, 9] by rfl] at c3
 have c4 := Df.rsame_fun [3, 5, 9] [3, 5, 9] (by decide)
 have c5 := Df.rsame_fun [1, 2] [1, 2] (by decide)
 have c6 := zjy [120] 3 l4 (by decide)
 rw [show zoW [120] 3 l4 = [100] by rfl] at c6
 have c7 := zjy [120] 3 [] (by decide)
 rw [show zoW [120] 3 [] = [120] by rfl] at c7
 have c8 := zpL
 have c9 := zpK
 have c10 := zq1
 simp only [l4, zeD, ints, Df.ints, List.map_cons, List.map_nil, decide_true] at c1 c2 c3 c4 c5 c6 c7
 (refine Fun.of_bodyW Tryz.func11 rfl (by simp) fun Γ hn => ?_); simp only [entry, ziC, ziN, maC, maN, oA, Tryz.ntmps11]
 repeat' (first
  | ((first | refine zag ?_ | refine zak ?_ | refine zah ?_ | fail); simp)
  | fail)
 refine zjj (Wk.frzN 1 _) ?_
 simp [frzN, frz1, zaC, zaB, St.frz, St.frzS, frzS, fv, zaQ, za2, za3, frzObS, zay, zas, del, frz, za8]
 repeat' (first
  | ((first | refine zag ?_ | refine zak ?_ | refine zah ?_ | fail); simp)
  | (refine zau ?_; simp only [zao])
  | (refine CallP.fE (c1) (by first | rfl | fail) (by first | (simp; done) | (simp; rfl) | fail) ?_; (try simp))
  | (refine CallP.fE (c2) (by first | rfl | fail) (by first | (simp; done) | (simp; rfl) | fail) ?_; (try simp))
  | (refine CallP.fE (c3) (by first | rfl | fail) (by first | (simp; done) | (simp; rfl) | fail) ?_; (try simp))
  | (refine CallP.fE (c4) (by first | rfl | fail) (by first | (simp; done) | (simp; rfl) | fail) ?_; (try simp))
  | (refine CallP.fE (c5) (by first | rfl | fail) (by first | (simp; done) | (simp; rfl) | fail) ?_; (try simp))
  | (refine CallP.fE (c6) (by first | rfl | fail) (by first | (simp; done) | (simp; rfl) | fail) ?_; (try simp))
  | (refine CallP.fE (c7) (by first | rfl | fail) (by first | (simp; done) | (simp; rfl) | fail) ?_; (try simp))
  | (refine CallP.fE (c8) (by first | rfl | fail) (by first | (simp; done) | (simp; rfl) | fail) ?_; (try simp))
  | (refine CallP.fE (c9) (by first | rfl | fail) (by first | (simp; done) | (simp; rfl) | fail) ?_; (try simp))
  | (refine CallP.fE (c10) (by first | rfl | fail) (by first | (simp; done) | (simp; rfl) | fail) ?_; (try simp))
  | fail)
 refine EndW.here ?_
 (refine EndOK.val (.inr rfl) ?_; simp [zaI, zaf, zaw, Tryz.results11])
theorem zrV (l : List Lw) (n : Int) (h0 : 0 ≤ n) (hn1 : n ≤ 1000) : ∃ B : Bool, (B = true → (l.length : Int) ≤ n) ∧ Fun Tryz.prog 13 [.u (zeD l), .u (.int .i64 n)] (· = .u (.bool B)) := by
 obtain ⟨B, hB⟩ : ∃ B : Bool, B = zkW l n := ⟨_, rfl⟩
 refine ⟨B, fun h => (zog (hB ▸ h)).1, ?_⟩
 unfold zeD
 (refine Fun.of_body Tryz.func13 rfl (by simp) fun Γ hn => ?_); simp only [entry, ziC, ziN, maC, maN, oA, Tryz.ntmps13]
 refine zgE (x := 0) rfl fun hll => ?_
 simp at hll
 repeat' (first
  | ((first | refine zag ?_ | refine zak ?_ | refine zah ?_ | refine zaA ?_ | fail); simp)
  | fail)
 refine zbT (α := { i : Nat // i ≤ l.length ∧ (i : Int) ≤ n + 1 ∧ ∀ x ∈ l.take i, x.text.length ≤ 500 }) [0, 1] (fun i => [(5, .u (.int .i64 i.1))]) (fun i => l.length - i.1) ⟨0, by omega, by omega, by simp⟩ ?_ ?_
 ·exact (Wk.env rfl rfl rfl (by simp [wkE, St.lp, zal, zaa, getK] <;> (try (intros; simp_all; done)) <;> (try (intros; omega)) <;> (try grind)))
 rintro ⟨i, hi, hin, hb⟩
 simp [St.lp, St.only, zal, zaa, getK]
 rcases hx : l[i]? with _ | x
 ·have hge : l.length ≤ i := by simpa using hx
  obtain rfl : i = l.length := by omega
  rw [List.take_length] at hb
  by_cases hle : (l.length : Int) ≤ n
  ·have e : B = true := by rw [hB]; simp [zkW, hle]; exact hb
   rw [e]
   repeat' (first
  | ((first | refine zag ?_ | refine zak ?_ | refine zah ?_ | refine zai ?_ | fail); simp [hx, hle])
  | (refine zau ?_; simp only [zao])
  | (refine za6 ?_; simp [zao])
  | fail)
   (refine EndOK.val (.inr rfl) ?_; simp [zaI, zaf, zaw, Tryz.results13])
  ·have e : B = false := by rw [hB]; simp [zkW]; intro h; omega
   rw [e]
   repeat' (first
  | ((first | refine zag ?_ | refine zak ?_ | refine zah ?_ | refine zai ?_ | fail); simp [hx, hle])
  | (refine zau ?_; simp only [zao])
  | (refine za6 ?_; simp [zao])
  | fail)
   (refine EndOK.val (.inr rfl) ?_; simp [zaI, zaf, zaw, Tryz.results13])
 ·have hlt : i < l.length := (lGE.1 hx).1
  have hlt2 : (i : Int) < l.length := by omega
  by_cases hin2 : (i : Int) ≤ n
  ·by_cases hlx : 500 < x.text.length
   ·have hlx' : (500 : Int) < x.text.length := by omega
    have e : B = false := by
     rw [hB, zkW, Bool.and_eq_false_iff]
     right
     rw [List.all_eq_false]
     exact ⟨x, List.mem_of_getElem? hx, by simp; omega⟩
    rw [e]
    repeat' (first
  | ((first | refine zag ?_ | refine zak ?_ | refine zah ?_ | refine zai ?_ | fail); simp [hx, hlt2, hin2, hlx'])
  | ((first | refine zau ?_ | refine zar ?_ | fail); simp only [zao])
  | fail)
    (refine EndOK.val (.inr rfl) ?_; simp [zaI, zaf, zaw, Tryz.results13])
   ·have hlx' : ¬ (500 : Int) < x.text.length := by omega
    repeat' (first
  | ((first | refine zag ?_ | refine zak ?_ | fail); simp [hx, hlt2, hin2, hlx'])
  | (refine ⟨by omega, ?_⟩)
  | ((first | refine zah ?_ | refine zai ?_ | refine zat ?_ | fail); simp [hx, hlt2, hin2, hlx'])
  | (refine zar ?_; simp only [zao])
  | fail)
    refine LoopW.next ⟨i + 1, by omega, by omega, fun y hy => ?_⟩ (by simp; omega) ?_
    ·rw [List.take_succ, hx] at hy
     rcases List.mem_append.1 hy with h | h
     ·exact hb y h
     ·simp at h; subst h; omega
    exact (Wk.env rfl rfl rfl (by simp [wkE, St.lp, zal, zaa, getK] <;> (try (intros; simp_all; done)) <;> (try (intros; omega)) <;> (try grind)))
  ·have hle : ¬ (l.length : Int) ≤ n := by omega
   have e : B = false := by rw [hB]; simp [zkW]; intro h; omega
   rw [e]
   repeat' (first
  | ((first | refine zag ?_ | refine zak ?_ | refine zah ?_ | refine zai ?_ | fail); simp [hx, hlt2, hin2, hle])
  | (refine zau ?_; simp only [zao])
  | (refine za6 ?_; simp [zao])
  | fail)
   (refine EndOK.val (.inr rfl) ?_; simp [zaI, zaf, zaw, Tryz.results13])
theorem zqR (l : List Int) (n : Int) (hl : l.length ≤ 1000000) : Fun Tryz.prog 21 [.u (ints l), .u (.int .i64 n)] (· = .u (.bool (decide (n ∈ l)))) := by
 unfold ints
 (refine Fun.of_body Tryz.func21 rfl (by simp) fun Γ hn => ?_); simp only [entry, ziC, ziN, maC, maN, oA, Tryz.ntmps21]
 repeat' (first
  | ((first | refine zag ?_ | refine zak ?_ | refine zah ?_ | refine zaA ?_ | fail); simp)
  | fail)
 refine zbT (α := { i : Nat // i ≤ l.length ∧ n ∉ l.take i }) [0, 1] (fun i => [(5, .u (.int .i64 i.1))]) (fun i => l.length - i.1) ⟨0, by omega, by simp⟩ ?_ ?_
 ·exact (Wk.env rfl rfl rfl (by simp [wkE, St.lp, zal, zaa, getK] <;> (try (intros; simp_all; done)) <;> (try (intros; omega)) <;> (try grind)))
 rintro ⟨i, hi, hb⟩
 simp [St.lp, St.only, zal, zaa, getK]
 rcases hx : l[i]? with _ | x
 ·have hge : l.length ≤ i := by simpa using hx
  obtain rfl : i = l.length := by omega
  rw [List.take_length] at hb
  rw [decide_eq_false hb]
  repeat' (first
  | ((first | refine zag ?_ | refine zak ?_ | refine zah ?_ | refine zai ?_ | fail); simp [hx])
  | (refine zau ?_; simp only [zao])
  | (refine za6 ?_; simp [zao])
  | fail)
  (refine EndOK.val (.inr rfl) ?_; simp [zaI, zaf, zaw, Tryz.results21])
 ·have hlt : i < l.length := (lGE.1 hx).1
  by_cases he : x = n
  ·rw [decide_eq_true (he ▸ List.mem_of_getElem? hx)]
   repeat' (first
  | ((first | refine zag ?_ | refine zak ?_ | refine zah ?_ | refine zai ?_ | fail); simp [hx, he])
  | ((first | refine zau ?_ | refine zar ?_ | fail); simp only [zao])
  | (refine ⟨?_, by omega⟩)
  | (intro hc <;> (try (exfalso; omega)))
  | fail)
   (refine EndOK.val (.inr rfl) ?_; simp [zaI, zaf, zaw, Tryz.results21])
  ·repeat' (first
  | ((first | refine zag ?_ | refine zak ?_ | fail); simp [hx, he])
  | (refine ⟨by omega, ?_⟩)
  | ((first | refine zah ?_ | refine zai ?_ | refine zat ?_ | fail); simp [hx, he])
  | (refine zar ?_; simp only [zao])
  | (refine ⟨?_, by omega⟩)
  | (intro hc <;> (try (exfalso; omega)))
  | fail)
   refine LoopW.next ⟨i + 1, by omega, fun hm => ?_⟩ (by simp; omega) ?_
   ·rw [List.take_succ, hx] at hm
    rcases List.mem_append.1 hm with h | h
    ·exact hb h
    ·simp at h; exact he h.symm
   exact (Wk.env rfl rfl rfl (by simp [wkE, St.lp, zal, zaa, getK] <;> (try (intros; simp_all; done)) <;> (try (intros; omega)) <;> (try grind)))
theorem zoe (f : Int) (l : List Lw) : Fun Tryz.prog 4 [.u (.int .i64 f), .u (zeD l)] (· = .u (.bool true)) := by
 obtain ⟨B, hB1, hB⟩ := zrV l 40 (by omega) (by omega)
 have hs := zm4
 cases B with
 | false =>
  unfold zeD at hB ⊢
  (refine Fun.of_bodyW Tryz.func4 rfl (by simp) fun Γ hn => ?_); simp only [entry, ziC, ziN, maC, maN, oA, Tryz.ntmps4]
  repeat' (first
  | ((first | refine zag ?_ | refine zak ?_ | refine zah ?_ | refine zai ?_ | fail); simp)
  | (refine zau ?_; simp only [zao])
  | (refine CallP.fE (hs) (by first | rfl | fail) (by first | (simp; done) | (simp; rfl) | fail) ?_; (try simp))
  | (refine CallP.fE (hB) (by first | rfl | fail) (by first | (simp; done) | (simp; rfl) | fail) ?_; (try simp))
  | fail)
  refine EndW.here ?_
  (refine EndOK.val (.inr rfl) ?_; simp [zaI, zaf, zaw, Tryz.results4])
 | true =>
  have hl40 : l.length ≤ 40 := by have := hB1 rfl; omega
  have c1 := zhw f l (by omega)
  have c2 := zfP f l (by omega)
  have c3 := fun n => zqR (zgx f l) n (by have := ze0 f l; omega)
  have c4 := zhw f (za5 f l) (by have := ze0 f l; omega)
  have c5 := zfP f (za5 f l) (by have := ze0 f l; omega)
  rw [zmi] at c4
  rw [znT] at c5
  have n1 := zmF f l
  have n2 := zki f l
  have n3 := ze0 f l
  have n4 : (zc1 f l)[0]? = some f := rfl
  have n5 := zmG f l
  have n6 := fun i => zjd f l i
  have n7 : ∀ n : Nat, ((n : Int) ∈ zgx f l) ↔ ∃ x, l[n]? = some x ∧ x.base ≠ zcl f (l.take n) := fun n => by
   rw [← zoS, zgx, iN]; simp
   exact ⟨fun ⟨a, h1, h2⟩ => (show a = n by omega) ▸ h1, fun h => ⟨n, h, rfl⟩⟩
  have c6 := Df.rsame_fun (zc1 f l) (zc1 f l) (by omega)
  rw [decide_eq_true rfl] at c6
  have n8 : ∀ i x, l[i]? = some x → x.base = zcl f (l.take i) → (zc1 f l)[(za5 f (l.take i)).length + 1]? = some x.mark := fun i x h1 h2 => (zmE h1 h2).1
  have n9 : (za5 f (l.take l.length)) = za5 f l := by rw [List.take_length]
  have n10 : ∀ i, (za5 f (l.take i)).length ≤ (za5 f l).length := fun i => by rw [zim f l i, List.length_append]; omega
  generalize zgu f l = FM at *
  generalize zgu f (za5 f l) = FK at *
  generalize zc1 f l = CH at *
  generalize zgx f l = VO at *
  have m1 : ¬ (CH.length : Int) < 1 := by omega
  have m2 : (CH.length : Int) + VO.length = l.length + 1 := by omega
  have m3 : (CH.length : Int) - 1 = (za5 f l).length := by omega
  simp only [ints, Df.ints, zeD] at *
  (refine Fun.of_bodyW Tryz.func4 rfl (by simp) fun Γ hn => ?_); simp only [entry, ziC, ziN, maC, maN, oA, Tryz.ntmps4]
  repeat' (first
  | ((first | refine zag ?_ | refine zak ?_ | fail); simp [m1, m2, m3, n4, n5])
  | (refine ⟨by omega, ?_⟩)
  | ((first | refine zah ?_ | refine zai ?_ | refine zaA ?_ | fail); simp [m1, m2, m3, n4, n5])
  | (refine zar ?_; simp only [zao])
  | (refine CallP.fE (hs) (by first | rfl | fail) (by first | simp [m1, m2, m3, n4, n5] <;> rfl | fail) ?_; (try simp [m1, m2, m3, n4, n5]))
  | (refine CallP.fE (hB) (by first | rfl | fail) (by first | simp [m1, m2, m3, n4, n5] <;> rfl | fail) ?_; (try simp [m1, m2, m3, n4, n5]))
  | (refine CallP.fE (c1) (by first | rfl | fail) (by first | simp [m1, m2, m3, n4, n5] <;> rfl | fail) ?_; (try simp [m1, m2, m3, n4, n5]))
  | (refine CallP.fE (c2) (by first | rfl | fail) (by first | simp [m1, m2, m3, n4, n5] <;> rfl | fail) ?_; (try simp [m1, m2, m3, n4, n5]))
  | fail)
  refine zmK _ (Wk.own 10 39 3 (by decide) rfl) ?_
  simp [St.own]
  refine zcg (α := { i : Nat // i ≤ l.length }) [0, 1, 5, 6, 8] (fun i => [(9, .u (.int .i64 (za5 f (l.take i.1)).length)), (10, .vec 0 (za5 f (l.take i.1)).length), (11, .u (.int .i64 i.1))])
   (fun i => [(0, .vec 39 3 (zkR (za5 f (l.take i.1))))]) 1 (fun i => l.length - i.1) ⟨0, by omega⟩ ?_ ?_
  ·exact (Wk.cut rfl (by simp [hn, St.lp]) (by simp [wkO, St.lp, zaa, getK, Ob.under, D.under, zad, zae, za5, zkR]) (by simp [wkU, St.lp, zal, zaa, getK, D.under, za5, zkR]) (by simp [wkE, St.lp, zal, zaa, getK, za5, zkR] <;> (try (intros; simp_all; done)) <;> (try (intros; omega)) <;> (try grind)))
  rintro ⟨i, hi⟩
  simp [St.lp, St.only, zal, zaa, getK]
  rcases hx : l[i]? with _ | x
  ·have hge : l.length ≤ i := by simpa using hx
   obtain rfl : i = l.length := by omega
   simp only [n9]
   repeat' (first
  | ((first | refine zag ?_ | refine zak ?_ | refine zah ?_ | refine zai ?_ | fail); simp [hx])
  | (refine za6 ?_; simp [zao])
  | fail)
   refine zjj (Wk.frzN 1 _) ?_
   simp [frzN, frz1, zaC, zaB, St.frz, St.frzS, frzS, fv, zaQ, za2, za3, frzObS, zay, zas, del, frz, za8, zpk, zdi]
   repeat' (first
  | ((first | refine zag ?_ | refine zak ?_ | fail); simp [hx, m3])
  | (refine ⟨by omega, ?_⟩)
  | (refine zah ?_; simp [hx, m3])
  | (refine zau ?_; simp only [zao])
  | (refine CallP.fE (c5) (by first | rfl | fail) (by first | simp [hx, m3] <;> rfl | fail) ?_; (try simp [hx, m3]))
  | (refine CallP.fE (c4) (by first | rfl | fail) (by first | simp [hx, m3] <;> rfl | fail) ?_; (try simp [hx, m3]))
  | (refine CallP.fE (c6) (by first | rfl | fail) (by first | simp [hx, m3] <;> rfl | fail) ?_; (try simp [hx, m3]))
  | fail)
   refine EndW.here ?_
   (refine EndOK.val (.inr rfl) ?_; simp [zaI, zaf, zaw, Tryz.results4])
  ·have hlt : i < l.length := (lGE.1 hx).1
   have hlt2 : (i : Int) < l.length := by omega
   have c3i := c3 (i : Int)
   have hat := n6 i
   have hgl := n10 i
   have hgl2 := n10 (i + 1)
   by_cases hb : x.base = zcl f (l.take i)
   ·have hv : ¬ (i : Int) ∈ VO := fun h => by
     obtain ⟨y, hy, hy2⟩ := (n7 i).1 h
     rw [hx] at hy; cases hy; exact hy2 hb
    have hn8 := n8 i x hx hb
    have hgs : za5 f (l.take (i + 1)) = za5 f (l.take i) ++ [x] := by
     obtain ⟨hi', rfl⟩ := lGE.1 hx
     rw [List.take_succ_eq_append_getElem hi', ze8, if_pos hb]
    rw [decide_eq_false hv] at c3i
    have hap := znQ (za5 f (l.take i)) x
    have hlr := znR (za5 f (l.take i))
    have hgl3 : (za5 f (l.take i)).length + 1 ≤ (za5 f l).length := by rw [hgs] at hgl2; simpa using hgl2
    have hge : ¬ (CH.length : Int) ≤ (za5 f (l.take i)).length + 1 := by omega
    generalize za5 f (l.take i) = G at *
    generalize zcl f (l.take i) = LM at *
    repeat' (first
  | ((first | refine zag ?_ | refine zbX rfl ?_ | refine zgT rfl ?_ | refine zak ?_ | fail); simp [hx, hb, hat, hn8, hge, hap, hlr, zdi])
  | (refine ⟨by omega, ?_⟩)
  | ((first | refine zah ?_ | refine zai ?_ | fail); simp [hx, hb, hat, hn8, hge, hap, hlr, zdi])
  | (refine zcw (hC _ (by kernel_rfl)) (hk _ ?_); clear hC hk C k; simp only [zao])
  | (refine zbU rfl (by kernel_rfl) (by first | (simp [hn]; done) | (simp [hn]; omega) | fail) fun C k hC hk => ?_; simp [hx, hb, hat, hn8, hge, hap, hlr, zdi])
  | (refine zfZ rfl (by simp [hx, hb, hat, hn8, hge, hap, hlr, zdi]) (fun hc => ?_) (fun hc => ?_) <;> (try simp [hx, hb, hat, hn8, hge, hap, hlr, zdi] at hc) <;> (try (exfalso; omega)) <;> (try simp [hx, hb, hat, hn8, hge, hap, hlr, zdi]))
  | (refine zat ?_; simp [hx, hb, hat, hn8, hge, hap, hlr, zdi])
  | (refine zar ?_; simp only [zao])
  | (refine ⟨?_, by omega⟩)
  | (intro hc <;> (try (exfalso; omega)))
  | (refine CallP.fE (c3i) (by first | rfl | fail) (by first | simp [hx, hb, hat, hn8, hge, hap, hlr, zdi] <;> rfl | fail) ?_; (try simp [hx, hb, hat, hn8, hge, hap, hlr, zdi]))
  | fail)
    refine LoopW.next ⟨i + 1, by omega⟩ (by simp; omega) ?_
    exact (Wk.ren ((fun i => if i = 0 then 2 else i)) rfl (by first | (simp [hn]; done) | (intro i hi; rw [hn] at hi; constructor <;> (try simp) <;> (try (intro _)) <;> omega)) (by simp [ziB, St.lp, zal, zaa, getK, zac, zam, D.under, D.le, D.ren, zd3, zdA, hgs] <;> (try (intros; simp_all; done)) <;> (try omega)) (by simp [wkR, St.lp, zaa, getK, zac, zam, obR, leU, zbR, zaT, Ob.under, D.under, D.le, D.ren, zd3, zdA, hgs] <;> (try (intros; simp_all; done)) <;> (try omega)) (by simp [zd3, zdA, hgs]))
   ·have hv : (i : Int) ∈ VO := (n7 i).2 ⟨x, hx, hb⟩
    have hgs := zn6 hx hb
    rw [decide_eq_true hv] at c3i
    generalize za5 f (l.take i) = G at *
    generalize zcl f (l.take i) = LM at *
    repeat' (first
  | ((first | refine zag ?_ | refine zbX rfl ?_ | refine zak ?_ | fail); simp [hx, hb, hat])
  | (refine ⟨by omega, ?_⟩)
  | ((first | refine zah ?_ | refine zai ?_ | fail); simp [hx, hb, hat])
  | (refine zcw (hC _ (by kernel_rfl)) (hk _ ?_); clear hC hk C k; simp only [zao])
  | (refine zbU rfl (by kernel_rfl) (by first | (simp [hn]; done) | (simp [hn]; omega) | fail) fun C k hC hk => ?_; simp [hx, hb, hat])
  | (refine zat ?_; simp [hx, hb, hat])
  | (refine zar ?_; simp only [zao])
  | (refine za6 ?_; simp [zao])
  | (refine ⟨?_, by omega⟩)
  | (intro hc <;> (try (exfalso; omega)))
  | (refine CallP.fE (c3i) (by first | rfl | fail) (by first | simp [hx, hb, hat] <;> rfl | fail) ?_; (try simp [hx, hb, hat]))
  | fail)
    refine LoopW.next ⟨i + 1, by omega⟩ (by simp; omega) ?_
    exact (Wk.ren ((fun i => i)) rfl (by first | (simp [hn]; done) | (intro i hi; rw [hn] at hi; constructor <;> (try simp) <;> (try (intro _)) <;> omega)) (by simp [ziB, St.lp, zal, zaa, getK, zac, zam, D.under, D.le, D.ren, zd3, zdA, hgs] <;> (try (intros; simp_all; done)) <;> (try omega)) (by simp [wkR, St.lp, zaa, getK, zac, zam, obR, leU, zbR, zaT, Ob.under, D.under, D.le, D.ren, zd3, zdA, hgs] <;> (try (intros; simp_all; done)) <;> (try omega)) (by simp [zd3, zdA, hgs]))
end Go.Proofs.YtepiegcjnaohjaaGreatDoor
