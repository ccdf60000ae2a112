/- Texts joined by a program of mine: Do Dm UD Uf Ug Uh Ud Dh#p Dj#p Qa#p Dp#p Fa Ea#p Eb#p Qc UV Qm Dh Dl Qa Ft Ea Eb Ec#p Ed#p Qb#p Qd#p Dn Dp Dq. -/
import Derived.Test.YtepiegcjnaohjaaGreatDoorK4
set_option linter.all false
set_option maxRecDepth 100000
set_option maxHeartbeats 8000000
namespace Go.Proofs.YtepiegcjnaohjaaGreatDoor.Df
open Go Go.VL Go.Proofs
attribute [local simp] zc8 zb5 evPure opd uOf zaG St.put St.at getK binD binI binS binB nilD aggD zgN zhG lookD lookR zcF Go.VL.nextD zcH zhM zhH zfY zb4 mkV zbl zbf zbe zbd zc5 za8 zbt zbG mapEff zdl zfy Key.kk shiftI arith unD convD zdL loadD cellsAt fieldAddrD fieldD indexAddrD indexD sliceD cutD lenD minmaxD nilCheckD buildD fillD zbY zdg ze1 setAll zcV zeA zcw zht zct St.add zaM zbP rowsOf zdG zcK zan zac zaa zbi zcN zaK entry zbE zbI valD zb8 zcg zgC zds zdt zb1 zbK zaz zaX zbz delAll effD St.effS zc6 zbg zaZ zc7 zbh za1 zch za0 zaT zci zcW zbL zcc zbs zca zcb zaR mkD zbk zbC zbQ zaz zcv D.ids Op.operands Call.operands zbu makeIfD makeFuncD typeAssertD zhF zdy zdz zhE zcG IntKind.bits zb9 zaS List.take_of_length_le List.range_succ
attribute [local irreducible] V G H HD HD2 zao Eff CallP CallV EndOK Fun Ret FinOK LoopI LoopW EndW
theorem zof (l : List Int) (hl : l.length ≤ 1000000) : Fun Tryz.prog 102 [.u (ints l)] (· = .u (ints l)) := by
 cases l with
 | nil =>
  (refine Fun.of_bodyW Tryz.func102 rfl (by simp) fun Γ hn => ?_); simp only [entry, ziC, ziN, maC, maN, oA, Tryz.ntmps102]
  simp only [ints, List.map_nil]
  refine zmF (x := 0) rfl ?_ (fun a cp => ?_)
  ·repeat' (first
  | ((first | refine zag ?_ | refine zak ?_ | refine zah ?_ | refine zai ?_ | fail); simp)
  | (refine zau ?_; simp only [zao])
  | fail)
   refine EndW.norm (EndW.here ?_)
   (refine EndOK.val (.inr rfl) ?_; simp [zaI, zaf, zaw, Tryz.results102, zaB, zaC, zcq, zcr, frz, za7, frzS, fv, zaQ, za2, za3, frzObS, zay, zas, zbR, zb6, zb7, zbc])
  ·repeat' (first
  | ((first | refine zag ?_ | refine zak ?_ | refine zah ?_ | refine zai ?_ | fail); simp)
  | ((first | refine zau ?_ | refine zar ?_ | fail); simp only [zao])
  | fail)
   (refine EndW.frzN 1 ?_; simp [frzN, frz1, zaC, zaB, St.frz, St.frzS, frzS, fv, zaQ, za2, za3, frzObS, zay, zas, del, frz, za7])
   refine EndW.norm (EndW.here ?_)
   (refine EndOK.val (.inr rfl) ?_; simp [zaI, zaf, zaw, Tryz.results102, zaB, zaC, zcq, zcr, frz, za7, frzS, fv, zaQ, za2, za3, frzObS, zay, zas, zbR, zb6, zb7, zbc])
 | cons x l =>
  simp only [List.length_cons] at hl
  (refine Fun.of_bodyW Tryz.func102 rfl (by simp) fun Γ hn => ?_); simp only [entry, ziC, ziN, maC, maN, oA, Tryz.ntmps102]
  simp only [ints, List.map_cons]
  repeat' (first
  | ((first | refine zag ?_ | refine zak ?_ | fail); simp)
  | (refine ⟨by omega, ?_⟩)
  | ((first | refine zah ?_ | refine zai ?_ | fail); simp)
  | ((first | refine zau ?_ | refine zar ?_ | fail); simp only [zao])
  | fail)
  (refine EndW.frzN 1 ?_; simp [frzN, frz1, zaC, zaB, St.frz, St.frzS, frzS, fv, zaQ, za2, za3, frzObS, zay, zas, del, frz, za7])
  refine EndW.here ?_
  (refine EndOK.val (.inr rfl) ?_; simp [zaI, zaf, zaw, Tryz.results102, zaB, zaC, zcq, zcr, frz, za7, frzS, fv, zaQ, za2, za3, frzObS, zay, zas, zbR, zb6, zb7, zbc])
def zdq (m : Nat) : List Int := zgz (List.range m)
theorem zec (m : Nat) : (zdq m).length = m := by simp [zdq]
theorem zgf (m : Nat) (x : Int) : x ∈ zdq m ↔ 0 ≤ x ∧ x < m ∧ zft m x.toNat = true := by
 simp only [zdq, zgz, List.mem_map, List.mem_range, zft, decide_eq_true_eq]
 constructor
 ·rintro ⟨i, hi, rfl⟩
  simp
  omega
 ·rintro ⟨h1, h2, _⟩
  exact ⟨x.toNat, by omega, by simp; omega⟩
theorem zoa (m : Nat) (hm : m ≤ 1000) : Fun Tryz.prog 79 [.u (.int .i64 m)] (· = .u (ints (zdq m))) := by
 simp only [ints]
 (refine Fun.of_bodyW Tryz.func79 rfl (by simp) fun Γ hn => ?_); simp only [entry, ziC, ziN, maC, maN, oA, Tryz.ntmps79]
 repeat' (first
  | ((first | refine zag ?_ | refine zak ?_ | refine zah ?_ | refine zaA ?_ | fail); simp)
  | fail)
 refine zmJ _ (Wk.own 3 3 1 (by decide) rfl) ?_
 simp [St.own]
 refine zcn (α := { k : Nat // k ≤ m }) [5] (fun k => [(3, .vec 0 k.1), (6, .u (.int .i64 k.1))]) (fun k => [(0, .vec 3 1 (zbn (zdq k.1)))]) 1 (fun k => m - k.1) ⟨0, by omega⟩ ?_ ?_
 ·exact (Wk.cut rfl (by simp [hn, St.lp]) (by simp [wkO, St.lp, zaa, getK, Ob.under, D.under, zad, zae, zaq, zam, zdq, zbn]) (by simp [wkU, St.lp, zal, zaa, getK, D.under, zaq, zam, zdq, zbn]) (by simp [wkE, St.lp, zal, zaa, getK, zaq, zam, zdq, zbn] <;> (try (intros; simp_all; done)) <;> (try (intros; omega)) <;> (try grind)))
 rintro ⟨k, hk⟩
 simp [St.lp, St.only, zal, zaa, getK]
 by_cases hlt : k < m
 ·have q7 : zbn (zdq k) ++ [[D.u (.int .i64 (k : Int))]] = zbn (zdq (k + 1)) := by simp [zdq, zbn, List.range_succ]
  have q8 := zdI (zdq k)
  have q9 := zec k
  repeat' (first
  | ((first | refine zag ?_ | refine zak ?_ | fail); simp [hlt, zaE, q7, q8, q9])
  | (refine ⟨by omega, ?_⟩)
  | ((first | refine zah ?_ | refine zat ?_ | fail); simp [hlt, zaE, q7, q8, q9])
  | (refine zar ?_; simp only [zao])
  | fail)
  refine LoopW.next ⟨k + 1, by omega⟩ (by simp; omega) ?_
  exact (Wk.zrW (0) (2) rfl (by simp [hn]) (by simp [hn]) (by simp [zaq, zam]) (by simp [zjk, zeJ, St.lp, zal, zaa, getK, zac, zan, D.under, D.le, D.ren, zaq, zam] <;> (try (intros; simp_all; done)) <;> (try omega)) (by simp [wkR, zeF, zce, zcf, zcB, zet, zeJ, St.lp, zaa, getK, zac, zan, obR, leU, zb2, za4, Ob.under, D.under, D.le, D.ren, zaq, zam] <;> (try (intros; simp_all; done)) <;> (try omega)))
 ·obtain rfl : k = m := by omega
  have q9 := zec k
  repeat' (first
  | ((first | refine zag ?_ | refine zak ?_ | refine zah ?_ | fail); simp [hlt])
  | (refine zau ?_; simp only [zao])
  | (refine za9 ?_; simp [zao])
  | fail)
  refine EndW.wk _ (Wk.frz 0 [] (us := (zdq k).map fun z => [U.int .i64 z]) rfl (zdR _)) ?_
  simp [St.frz, St.frzS, frzS, fv, zaQ, frzObS, del, q9]
  refine EndW.norm (EndW.here ?_)
  (refine EndOK.val (.inr rfl) ?_; simp [zaI, zaf, zaw, Tryz.results79, zaB, zaC, zcq, zcr, frz, za7, frzS, fv, zaQ, za2, za3, frzObS, zay, zas, zbR, zb6, zb7, zbc, q9])
theorem zkB (t j nx : Nat) (hj : j < nx) (zs : List Int) (hz : zs.length ≤ 1099511627776) : Ret Tryz.prog 146 [.vec j zs.length] [(j, .vec t 1 (zbn zs))] nx
  fun d obs nx' => d = .tup [] ∧ obs = [(j, .vec t 1 (zbn zs.reverse))] ∧ nx' = nx :=
 Ret.zra (ret := fun _ _ => .tuple #[]) hj (by simp) (by simp only [maxLen]; omega) (fun blk cap w hH hb _ _ => (Tryz.slices_Reverse_int blk 0 cap zs w hH (by omega)).mono fun e w' ⟨h1, q, h2⟩ => ⟨h1, q, #[], by rw [h2, Go.Sort.grow_empty]⟩)
  (fun h0 p cap w => by subst h0; exact Tryz.slices_Reverse_int_empty p cap w) (.inl ⟨rfl, fun _ _ => rfl⟩)
end Go.Proofs.YtepiegcjnaohjaaGreatDoor.Df
namespace Go.Proofs.YtepiegcjnaohjaaGreatDoor.Df
open Go Go.VL
attribute [local simp] zc8 zb5 evPure opd uOf zaG St.put St.at getK binD binI binS binB nilD aggD zgN zhG lookD lookR zcF Go.VL.nextD zcH zhM zhH zfY zb4 mkV zbl zbf zbe zbd zc5 za8 zbt zbG mapEff zdl zfy Key.kk shiftI arith unD convD zdL loadD cellsAt fieldAddrD fieldD indexAddrD indexD sliceD cutD lenD minmaxD nilCheckD buildD fillD zbY zdg ze1 setAll zcV zeA zcw zht zct St.add zaM zbP rowsOf zdG zcK zan zac zaa zbi zcN zaK entry zbE zbI valD zb8 zcg zgC zds zdt zb1 zbK zaz zaX zbz delAll effD St.effS zc6 zbg zaZ zc7 zbh za1 zch za0 zaT zci zcW zbL zcc zbs zca zcb zaR mkD zbk zbC zbQ zaz zcv D.ids Op.operands Call.operands zbu makeIfD makeFuncD typeAssertD zhF zdy zdz zhE zcG IntKind.bits zb9 zaS List.take_of_length_le List.range_succ
attribute [local irreducible] V G H HD HD2 zao Eff CallP CallV EndOK Fun Ret FinOK LoopI LoopW EndW
end Go.Proofs.YtepiegcjnaohjaaGreatDoor.Df
namespace Go.Proofs.YtepiegcjnaohjaaGreatDoor
open Go Go.VL
attribute [local simp] zc8 zb5 evPure opd uOf zaG St.put St.at getK binD binI binS binB nilD aggD zgN zhG lookD lookR zcF Go.VL.nextD zcH zhM zhH zfY zb4 mkV zbl zbf zbe zbd zc5 za8 zbt zbG mapEff zdl zfy Key.kk shiftI arith unD convD zdL loadD cellsAt fieldAddrD fieldD indexAddrD indexD sliceD cutD lenD minmaxD nilCheckD buildD fillD zbY zdg ze1 setAll zcV zeA zcw zht zct St.add zaM zbP rowsOf zdG zcK zan zac zaa zbi zcN zaK entry zbE zbI valD zb8 zcg zgC zds zdt zb1 zbK zaz zaX zbz delAll effD St.effS zc6 zbg zaZ zc7 zbh za1 zch za0 zaT zci zcW zbL zcc zbs zca zcb zaR mkD zbk zbC zbQ zaz zcv D.ids Op.operands Call.operands zbu makeIfD makeFuncD typeAssertD zhF zdy zdz zhE zcG IntKind.bits zb9 zaS List.take_of_length_le List.range_succ
attribute [local irreducible] V G H HD HD2 zao Eff CallP CallV EndOK Fun Ret FinOK LoopI LoopW EndW
def zgr (l : Let) : List U := [.str l.name, .int .i64 l.body.op, .int .i64 l.body.n, .int .i64 l.body.unit, .str l.body.s, .sl (l.body.args.map Exp.row)]
def zpd (l : Let) : D := .u (.agg [.str l.name, .int .i64 l.body.op, .int .i64 l.body.n, .int .i64 l.body.unit, .str l.body.s, .sl (l.body.args.map Exp.row)])
def zeO (l : List Let) : U := .sl (l.map fun l => [.str l.name, .int .i64 l.body.op, .int .i64 l.body.n, .int .i64 l.body.unit, .str l.body.s, .sl (l.body.args.map Exp.row)])
theorem zmm (l : List (Let)) (f : FuncId) (caps : List U) (p : Let → Bool) (hf : ∀ n ∈ l, Fun Tryz.prog f (zpd n :: caps.map .u) (· = .u (.bool (p n)))) (hcl : zaj Tryz.prog f = true)
  (hca : ∀ o, zcg o (caps.map .u) = some (caps.map .u, [])) : Fun Tryz.prog 151 [.u (zeO l), .fnc (.func f) (caps.map .u)] (· = .u (.int .i64 (ze6 p l 0))) := by
 (refine Fun.of_body Tryz.func151 rfl (by simp) fun Γ hn => ?_); simp only [entry, ziC, ziN, maC, maN, oA, Tryz.ntmps151]
 simp only [zeO]
 refine zgD (x := 0) rfl fun hl => ?_
 simp at hl
 repeat' (first
  | ((first | refine zag ?_ | refine zak ?_ | refine zah ?_ | refine zaA ?_ | fail); simp)
  | fail)
 refine zbS (α := { i : Nat // i ≤ l.length ∧ ∀ c ∈ l.take i, p c = false }) [0, 1, 7] (fun i => [(8, .u (.int .i64 i.1))]) (fun i => l.length - i.1) ⟨0, by omega, by simp⟩ ?_ ?_
 ·exact (Wk.env rfl rfl rfl (by simp [wkE, St.lp, zal, zaa, getK] <;> (try (intros; simp_all; done)) <;> (try (intros; omega)) <;> (try grind)))
 rintro ⟨i, hi, hb⟩
 simp [St.lp, St.only, zal, zaa, getK]
 rcases hx : l[i]? with _ | n
 ·have hge : l.length ≤ i := by simpa using hx
  repeat' (first
  | ((first | refine zag ?_ | refine zak ?_ | fail); simp [hx])
  | (refine ⟨by omega, ?_⟩)
  | (refine zah ?_; simp [hx])
  | (refine zau ?_; simp only [zao])
  | (refine za9 ?_; simp [zao])
  | (intro hc <;> (try (exfalso; omega)))
  | fail)
  (refine EndOK.val (.inr rfl) ?_; simp [zaI, zaf, zaw, Tryz.results151])
  rw [List.take_of_length_le hge] at hb
  exact (zdo hb).symm
 ·have hlt : i < l.length := (lGE.1 hx).1
  have h1 := hf n (List.mem_of_getElem? hx)
  simp only [zpd] at h1
  cases hp : p n
  ·rw [hp] at h1
   repeat' (first
  | ((first | refine zag ?_ | refine zak ?_ | fail); simp [hx, hca])
  | (refine ⟨by omega, ?_⟩)
  | ((first | refine zah ?_ | refine zai ?_ | refine zat ?_ | fail); simp [hx, hca])
  | (refine zar ?_; simp only [zao])
  | (refine ⟨?_, by omega⟩)
  | (intro hc <;> (try (exfalso; omega)))
  | (refine CallP.fE (h1) (by first | rfl | fail) (by first | simp [hx, hca] <;> rfl | fail) ?_; (try simp [hcl, hx, hca]))
  | fail)
   refine LoopW.next ⟨i + 1, by omega, zaY hx hb hp⟩ (by simp; omega) ?_
   exact (Wk.env rfl rfl rfl (by simp [wkE, St.lp, zal, zaa, getK] <;> (try (intros; simp_all; done)) <;> (try (intros; omega)) <;> (try grind)))
  ·rw [hp] at h1
   repeat' (first
  | ((first | refine zag ?_ | refine zak ?_ | refine zah ?_ | refine zai ?_ | fail); simp [hx, hca])
  | ((first | refine zau ?_ | refine zar ?_ | fail); simp only [zao])
  | (refine ⟨?_, by omega⟩)
  | (intro hc <;> (try (exfalso; omega)))
  | (refine CallP.fE (h1) (by first | rfl | fail) (by first | simp [hx, hca] <;> rfl | fail) ?_; (try simp [hcl, hx, hca]))
  | fail)
   (refine EndOK.val (.inr rfl) ?_; simp [zaI, zaf, zaw, Tryz.results151])
   rw [zeQ hb hx hp]
   omega
theorem zeu (l : List (Let)) (f : FuncId) (caps : List U) (p : Let → Bool) (hf : ∀ n ∈ l, Fun Tryz.prog f (zpd n :: caps.map .u) (· = .u (.bool (p n)))) (hcl : zaj Tryz.prog f = true)
  (hca : ∀ o, zcg o (caps.map .u) = some (caps.map .u, [])) (hcb : ∀ o, zbK o (caps.map .u) = some (caps, [])) : Fun Tryz.prog 90 [.u (zeO l), .fnc (.func f) (caps.map .u)] (· = .u (.bool (l.any p))) := by
 have h1 := zmm l f caps p hf hcl hca
 (refine Fun.of_body Tryz.func90 rfl (by simp) fun Γ hn => ?_); simp only [entry, ziC, ziN, maC, maN, oA, Tryz.ntmps90]
 simp only [zeO] at h1 ⊢
 repeat' (first
  | ((first | refine zag ?_ | refine zak ?_ | refine zah ?_ | fail); simp [hcb])
  | (refine zau ?_; simp only [zao])
  | (refine CallP.fE (h1) (by first | rfl | fail) (by first | simp [hcb] <;> rfl | fail) ?_; (try simp [hcl, hcb]))
  | fail)
 (refine EndOK.val (.inr rfl) ?_; simp [zaI, zaf, zaw, Tryz.results90])
 have h2 := zeq p l 0 (by omega)
 rw [Bool.eq_iff_iff]
 simpa using h2
theorem zmz (u n : Int) : Fun Tryz.prog 276 (zmq u :: [U.row [.int .i64 n] 0].map .u) (· = .u (.bool (decide (u ≠ n)))) := by
 simp only [zmq, List.map_cons, List.map_nil]
 (refine Fun.of_body Tryz.func276 rfl (by simp) fun Γ hn => ?_); simp only [entry, ziC, ziN, maC, maN, oA, Tryz.ntmps276]
 repeat' (first
  | ((first | refine zag ?_ | refine zak ?_ | refine zah ?_ | fail); simp)
  | (refine zau ?_; simp only [zao])
  | fail)
 (refine EndOK.val (.inr rfl) ?_; simp [zaI, zaf, zaw, Tryz.results276])
def zhJ (u : Int) (l : List Int) : Bool := !l.any fun n => decide (n ≠ u)
theorem zhr (u : Int) (l : List Int) : Fun Tryz.prog 275 [.u (.int .i64 u), .u (.row [ints l] 0)] (· = .u (.bool (zhJ u l))) := by
 have h1 := zev l 276 [U.row [.int .i64 u] 0] _ (fun n _ => zmz n u) (by simp) (fun _ => rfl) (fun _ => rfl)
 simp only [List.map_cons, List.map_nil] at h1
 unfold zhJ
 (refine Fun.of_body Tryz.func275 rfl (by simp) fun Γ hn => ?_); simp only [entry, ziC, ziN, maC, maN, oA, Tryz.ntmps275]
 simp only [ints] at h1 ⊢
 repeat' (first
  | ((first | refine zag ?_ | refine zak ?_ | refine zah ?_ | fail); simp)
  | (refine zau ?_; simp only [zao])
  | (refine CallP.fE (h1) (by first | rfl | fail) (by first | (simp; done) | (simp; rfl) | fail) ?_; (try simp))
  | fail)
 (refine EndOK.val (.inr rfl) ?_; simp [zaI, zaf, zaw, Tryz.results275])
def zm6 (a b : Int) : Int × Bool := if a = 0 ∨ b = 0 then (0, false) else if a = 4 then (b, true) else if b = 4 then (a, true) else if a = 1 then (b, true) else if b = 1 then (a, true) else (0, false)
theorem zoT (a b : Int) : Fun Tryz.prog 277 [.u (.int .i64 a), .u (.int .i64 b)] (· = .tup [.u (.int .i64 (zm6 a b).1), .u (.bool (zm6 a b).2)]) := by
 (refine Fun.of_body Tryz.func277 rfl (by simp) fun Γ hn => ?_); simp only [entry, ziC, ziN, maC, maN, oA, Tryz.ntmps277]
 unfold zm6
 repeat' (first
  | ((first | refine zag ?_ | refine zak ?_ | refine zah ?_ | refine zai ?_ | refine zaA ?_ | fail); simp [zbI, zbE])
  | ((first | refine zau ?_ | refine zar ?_ | fail); simp only [zao])
  | (refine ⟨fun hc => ?_, fun hc => ?_⟩ <;> (try (exfalso; omega)))
  | fail)
 all_goals try ((refine EndOK.val (.inr rfl) ?_; simp [zaI, zaf, zaw, Tryz.results277]); simp_all; done)
 all_goals
  refine zbS (α := { i : Nat // i ≤ 2 ∧ (1 ≤ i → a ≠ 4 ∧ b ≠ 4) ∧ (2 ≤ i → a ≠ 1 ∧ b ≠ 1) }) [0, 1, 14, 15] (fun i => [(16, .u (.int .i64 i.1))]) (fun i => 2 - i.1) ⟨0, by omega, by omega, by omega⟩ ?_ ?_
  ·exact (Wk.cut rfl (by simp [hn, St.lp]) (by simp [wkO, St.lp, zaa, getK, Ob.under, D.under, zad, zae]) (by simp [wkU, St.lp, zal, zaa, getK, D.under]) (by simp [wkE, St.lp, zal, zaa, getK] <;> (try (intros; simp_all; done)) <;> (try (intros; omega)) <;> (try grind)))
  rintro ⟨i, hi, h1, h2⟩
  simp [St.lp, St.only, zal, zaa, getK]
  have : i = 0 ∨ i = 1 ∨ i = 2 := by omega
  rcases this with rfl | rfl | rfl
  ·repeat' (first
  | ((first | refine zag ?_ | refine zak ?_ | refine zah ?_ | refine zai ?_ | refine zat ?_ | fail); simp)
  | ((first | refine zau ?_ | refine zar ?_ | fail); simp only [zao])
  | (refine ⟨fun hc => ?_, fun hc => ?_⟩ <;> (try (exfalso; omega)))
  | fail)
   ·(refine EndOK.val (.inr rfl) ?_; simp [zaI, zaf, zaw, Tryz.results277])
    simp_all
   ·(refine EndOK.val (.inr rfl) ?_; simp [zaI, zaf, zaw, Tryz.results277])
    simp_all
   ·refine LoopW.next ⟨1, by omega, by omega, by omega⟩ (by simp) ?_
    exact (Wk.cut rfl (by simp [hn, St.lp]) (by simp [wkO, St.lp, zaa, getK, Ob.under, D.under, zad, zae]) (by simp [wkU, St.lp, zal, zaa, getK, D.under]) (by simp [wkE, St.lp, zal, zaa, getK] <;> (try (intros; simp_all; done)) <;> (try (intros; omega)) <;> (try grind)))
  ·repeat' (first
  | ((first | refine zag ?_ | refine zak ?_ | refine zah ?_ | refine zai ?_ | refine zat ?_ | fail); simp)
  | ((first | refine zau ?_ | refine zar ?_ | fail); simp only [zao])
  | (refine ⟨fun hc => ?_, fun hc => ?_⟩ <;> (try (exfalso; omega)))
  | fail)
   ·(refine EndOK.val (.inr rfl) ?_; simp [zaI, zaf, zaw, Tryz.results277])
    simp_all
   ·(refine EndOK.val (.inr rfl) ?_; simp [zaI, zaf, zaw, Tryz.results277])
    simp_all
   ·refine LoopW.next ⟨2, by omega, by omega, by omega⟩ (by simp) ?_
    exact (Wk.cut rfl (by simp [hn, St.lp]) (by simp [wkO, St.lp, zaa, getK, Ob.under, D.under, zad, zae]) (by simp [wkU, St.lp, zal, zaa, getK, D.under]) (by simp [wkE, St.lp, zal, zaa, getK] <;> (try (intros; simp_all; done)) <;> (try (intros; omega)) <;> (try grind)))
  ·repeat' (first
  | ((first | refine zag ?_ | refine zak ?_ | refine zah ?_ | fail); simp)
  | (refine zau ?_; simp only [zao])
  | (refine za9 ?_; simp [zao])
  | fail)
   (refine EndOK.val (.inr rfl) ?_; simp [zaI, zaf, zaw, Tryz.results277])
   simp_all
def l0 (l : List Int) (i : Nat) : Int := l.getD i 0
def zhV (op : Int) (l : List Int) : Int × Bool :=
 if op = 2 ∨ op = 3 ∨ op = 6 ∨ op = 7 then (l0 l 0, zhJ (l0 l 0) l && decide (l0 l 0 ≠ 0))
 else if op = 4 then zm6 (l0 l 0) (l0 l 1)
 else if op = 5 then (if l0 l 1 = 1 then (l0 l 0, decide (l0 l 0 ≠ 0) && decide (l0 l 0 ≠ 4)) else (1, zhJ (l0 l 0) l && (decide (l0 l 0 = 3) || decide (l0 l 0 = 2))))
 else if op = 8 then (0, zhJ (l0 l 0) l && decide (l0 l 0 ≠ 0))
 else if op = 9 then (0, zhJ (l0 l 0) l)
 else if op = 13 then (l0 l 1, decide (l0 l 0 = 0) && decide (l0 l 1 = l0 l 2))
 else (0, zhJ 0 l)
theorem zt4 {l : List Int} (h : (l.length : Int) = 1) : ∃ a, l = [a] := List.length_eq_one_iff.1 (by omega)
theorem zt3 {l : List Int} (h : (l.length : Int) = 2) : ∃ a b, l = [a, b] := by
 match l, h with
 | [], h => simp at h
 | [a], h => simp at h
 | [a, b], _ => exact ⟨a, b, rfl⟩
 | a :: b :: c :: l, h => simp at h; omega
theorem zt2 {l : List Int} (h : (l.length : Int) = 3) : ∃ a b c, l = [a, b, c] := by
 match l, h with
 | [], h => simp at h
 | [a], h => simp at h
 | [a, b], h => simp at h
 | [a, b, c], _ => exact ⟨a, b, c, rfl⟩
 | a :: b :: c :: d :: l, h => simp at h; omega
theorem zpz (op : Int) (l : List Int) (hop : 2 ≤ op ∧ op < 14) (hl : (l.length : Int) = zb3 op) : Fun Tryz.prog 229 [.u (.int .i64 op), .u (ints l)] (· = .tup [.u (.int .i64 (zhV op l).1), .u (.bool (zhV op l).2)]) := by
 have h12 : op = 12 ∨ op = 13 ∨ op = 2 ∨ op = 3 ∨ op = 4 ∨ op = 5 ∨ op = 6 ∨ op = 7 ∨ op = 8 ∨ op = 9 ∨ op = 10 ∨ op = 11 := by omega
 rcases h12 with rfl | rfl | h12
 ·obtain ⟨a, rfl⟩ := zt4 (hl.trans rfl)
  have h1 := zhr 0 [a]
  simp only [zhV, l0]
  generalize zhJ 0 [a] = o1 at h1 ⊢
  (refine Fun.of_body Tryz.func229 rfl (by simp) fun Γ hn => ?_); simp only [entry, ziC, ziN, maC, maN, oA, Tryz.ntmps229]
  simp only [ints, List.map_cons, List.map_nil] at h1 ⊢
  repeat' (first
  | ((first | refine zag ?_ | refine zak ?_ | refine zah ?_ | refine zai ?_ | refine zaA ?_ | refine zat ?_ | fail); simp)
  | ((first | refine zau ?_ | refine zar ?_ | fail); simp only [zao])
  | (refine CallP.fE (h1) (by first | rfl | fail) (by first | (simp; done) | (simp; rfl) | fail) ?_; (try simp))
  | fail)
  all_goals
   (refine EndOK.val (.inr rfl) ?_; simp [zaI, zaf, zaw, Tryz.results229])
 ·obtain ⟨a, b, c, rfl⟩ := zt2 (hl.trans rfl)
  simp only [zhV, l0]
  (refine Fun.of_body Tryz.func229 rfl (by simp) fun Γ hn => ?_); simp only [entry, ziC, ziN, maC, maN, oA, Tryz.ntmps229]
  simp only [ints, List.map_cons, List.map_nil]
  repeat' (first
  | ((first | refine zag ?_ | refine zbU ?_ | refine zak ?_ | refine zah ?_ | refine zai ?_ | fail); simp)
  | (refine zcI ?_)
  | (refine hk _ ?_; clear hk k; simp only [zao])
  | (refine zbT rfl (by kernel_rfl) (by kernel_rfl) fun k hk => ?_; simp)
  | (refine zdU rfl (by simp) (fun hc => ?_) (fun hc => ?_) <;> (try simp at hc) <;> (try (exfalso; omega)) <;> (try simp))
  | ((first | refine zaA ?_ | refine zat ?_ | fail); simp)
  | (refine zau ?_; simp only [zao])
  | fail)
  all_goals
   (refine EndOK.val (.inr rfl) ?_; simp [zaI, zaf, zaw, Tryz.results229])
  all_goals (simp_all; done)
 ·obtain ⟨a, b, rfl⟩ := zt3 (l := l) (by rw [hl]; rcases h12 with rfl | rfl | rfl | rfl | rfl | rfl | rfl | rfl | rfl | rfl <;> rfl)
  clear hl hop
  have h1 := zhr a [a, b]
  have h2 := zhr 0 [a, b]
  have h3 := zoT a b
  have e0 : l0 [a, b] 0 = a := rfl
  have e1 : l0 [a, b] 1 = b := rfl
  unfold zhV
  rw [e0, e1]
  clear e0 e1
  generalize zhJ a [a, b] = o1 at h1 ⊢
  generalize zhJ 0 [a, b] = o2 at h2 ⊢
  generalize zm6 a b = p at h3 ⊢
  simp only [ints, List.map_cons, List.map_nil] at h1 h2 ⊢
  rcases h12 with rfl | rfl | rfl | rfl | rfl | rfl | rfl | rfl | rfl | rfl
  all_goals
   (refine Fun.of_body Tryz.func229 rfl (by simp) fun Γ hn => ?_); simp only [entry, ziC, ziN, maC, maN, oA, Tryz.ntmps229]
   repeat' (first
  | ((first | refine zag ?_ | refine zbU ?_ | refine zak ?_ | refine zah ?_ | refine zai ?_ | fail); simp)
  | (refine zcI ?_)
  | (refine hk _ ?_; clear hk k; simp only [zao])
  | (refine zbT rfl (by kernel_rfl) (by kernel_rfl) fun k hk => ?_; simp)
  | (refine zoC rfl (by simp) ?_; simp)
  | (refine zdU rfl (by simp) (fun hc => ?_) (fun hc => ?_) <;> (try simp at hc) <;> (try (exfalso; omega)) <;> (try simp))
  | ((first | refine zaA ?_ | refine zat ?_ | fail); simp)
  | ((first | refine zau ?_ | refine zar ?_ | fail); simp only [zao])
  | (refine ⟨fun hc => ?_, fun hc => ?_⟩ <;> (try (exfalso; omega)))
  | (refine CallV.fun_ (h1) (by first | rfl | fail) (by first | (simp; done) | (simp; rfl) | fail) ?_ <;> (try simp))
  | (refine CallP.fE (h1) (by first | rfl | fail) (by first | (simp; done) | (simp; rfl) | fail) ?_; (try simp))
  | (refine CallP.fE (h2) (by first | rfl | fail) (by first | (simp; done) | (simp; rfl) | fail) ?_; (try simp))
  | (refine CallV.fun_ (h3) (by first | rfl | fail) (by first | (simp; done) | (simp; rfl) | fail) ?_ <;> (try simp))
  | fail)
   all_goals
    (refine EndOK.val (.inr rfl) ?_; simp [zaI, zaf, zaw, Tryz.results229])
   all_goals (clear h1 h2 h3; first | (simp_all; done) | (grind) | skip)
def asc {β : Type} : List (List UInt8 × β) → List UInt8 → Option β
 | [], _ => none
 | (k, b) :: l, x => if x = k then some b else asc l x
def zfS {β : Type} : List (List UInt8 × β) → List UInt8 → β → List (List UInt8 × β)
 | [], x, b => [(x, b)]
 | (k, c) :: l, x, b => if x = k then (k, b) :: l else (k, c) :: zfS l x b
theorem zhg {β : Type} (f : β → List U) (x : List UInt8) : ∀ (l : List (List UInt8 × β)), zb4 (l.map fun p => (Key.s p.1, f p.2)) (.s x) = (asc l x).map f
 | [] => rfl
 | (k, b) :: l => by
  simp only [List.map_cons, zb4, asc, Key.s.injEq]
  split
  ·rfl
  ·exact zhg f x l
theorem ziA {β : Type} (f : β → List U) (x : List UInt8) (b : β) : ∀ (l : List (List UInt8 × β)), zdl (l.map fun p => (Key.s p.1, f p.2)) (.s x) (f b) = (zfS l x b).map fun p => (Key.s p.1, f p.2)
 | [] => rfl
 | (k, c) :: l => by
  simp only [List.map_cons, zdl, zfS, Key.s.injEq]
  split
  ·rfl
  ·simp only [List.map_cons]; rw [ziA f x b l]
mutual
/-- The unit of an expression, or an error. -/
def zdV (g : List UInt8 → Option Int) (m : List UInt8 → Option (Int × Int)) : Exp → Int × Int
 | .mk op _ u s args =>
  if op = 0 then (u, 0)
  else if op = 1 then (match g s with | some u => (u, 0) | none => match m s with | some r => r | none => (0, 13))
  else match zfB g m args with
   | .error b => (0, b)
   | .ok l => if (zhV op l).2 = true then ((zhV op l).1, 0) else (0, 14)
def zfB (g : List UInt8 → Option Int) (m : List UInt8 → Option (Int × Int)) : List Exp → Except Int (List Int)
 | [] => .ok []
 | e :: r => if (zdV g m e).2 ≠ 0 then .error (zdV g m e).2 else match zfB g m r with
  | .error b => .error b
  | .ok l => .ok ((zdV g m e).1 :: l)
end
theorem ziE (g m) (e : Exp) : zdV g m e = if e.op = 0 then (e.unit, 0)
  else if e.op = 1 then (match g e.s with | some u => (u, 0) | none => match m e.s with | some r => r | none => (0, 13))
  else match zfB g m e.args with
   | .error b => (0, b)
   | .ok l => if (zhV e.op l).2 = true then ((zhV e.op l).1, 0) else (0, 14) := by
 cases e with | mk op n u s args => rw [zdV]; rfl
theorem zjp {g m} : ∀ {l : List Exp}, (∀ x ∈ l, (zdV g m x).2 = 0) → zfB g m l = .ok (l.map fun x => (zdV g m x).1)
 | [], _ => by rw [zfB]; rfl
 | e :: r, h => by
  rw [zfB, if_neg (by simp [h e (by simp)]), zjp fun x hx => h x (by simp [hx])]
  rfl
theorem zh0 {g m} : ∀ {l : List Exp} {i : Nat} {e : Exp}, l[i]? = some e → (∀ x ∈ l.take i, (zdV g m x).2 = 0) → (zdV g m e).2 ≠ 0 → zfB g m l = .error (zdV g m e).2
 | [], i, e, h, _, _ => by simp at h
 | a :: r, 0, e, h, _, h2 => by
  simp at h
  subst h
  rw [zfB, if_pos h2]
 | a :: r, i + 1, e, h, h1, h2 => by
  rw [zfB, if_neg (by simp [h1 a (by simp)]), zh0 (l := r) (i := i) (by simpa using h) (fun x hx => h1 x (by simp [hx])) h2]
mutual
/-- Whether an expression is a share. -/
def zgp (m : List UInt8 → Bool) : Exp → Bool
 | .mk op _ u s args =>
  if op = 0 then decide (u = 4)
  else if op = 1 then m s
  else if op = 2 ∨ op = 3 ∨ op = 6 ∨ op = 7 then zdC m args 0
  else if op = 4 then zdC m args 0 && zdC m args 1
  else if op = 13 then zdC m args 1
  else false
def zdC (m : List UInt8 → Bool) : List Exp → Nat → Bool
 | [], _ => false
 | e :: _, 0 => zgp m e
 | _ :: r, n + 1 => zdC m r n
end
theorem zm2 (m) (e : Exp) : zgp m e = if e.op = 0 then decide (e.unit = 4)
  else if e.op = 1 then m e.s
  else if e.op = 2 ∨ e.op = 3 ∨ e.op = 6 ∨ e.op = 7 then zdC m e.args 0
  else if e.op = 4 then zdC m e.args 0 && zdC m e.args 1
  else if e.op = 13 then zdC m e.args 1
  else false := by
 cases e with | mk op n u s args => rw [zgp]; rfl
/-- What is known of a let: its unit, its error, whether it is a share. -/
abbrev LM := List (List UInt8 × Int × Int × Bool)
abbrev GM := List (List UInt8 × Int)
def zpp (g : GM) : List (Key × List U) := g.map fun p => (Key.s p.1, [U.int .i64 p.2])
def zqf (m : LM) : List (Key × List U) := m.map fun p => (Key.s p.1, [U.int .i64 p.2.1, .int .i64 p.2.2.1, .bool p.2.2.2])
theorem zqe (g : GM) (x : List UInt8) : zb4 (zpp g) (.s x) = (asc g x).map fun u => [U.int .i64 u] := zhg (fun u : Int => [U.int .i64 u]) x g
theorem zqd (g : LM) (x : List UInt8) : zb4 (zqf g) (.s x) = (asc g x).map fun q => [U.int .i64 q.1, .int .i64 q.2.1, .bool q.2.2] := zhg (fun q : Int × Int × Bool => [U.int .i64 q.1, .int .i64 q.2.1, .bool q.2.2]) x g
def jU (g : GM) (m : LM) : U := .row [.map .s false (zpp g), .map .s true (zqf m)] 0
def gF (g : GM) : List UInt8 → Option Int := asc g
def mF (m : LM) : List UInt8 → Option (Int × Int) := fun x => (asc m x).map fun q => (q.1, q.2.1)
def sF (m : LM) : List UInt8 → Bool := fun x => ((asc m x).map fun q => q.2.2).getD false
theorem zh4 {d : Nat} {e : Exp} (h : zbx (d + 1) e = true) : (e.args.length : Int) = zb3 e.op ∧ 0 ≤ e.op ∧ e.op < 14 ∧ (e.op ≠ 0 → e.op ≠ 1 → ∀ x ∈ e.args, zbx d x = true) := by
 rw [zbx, Bool.and_eq_true, decide_eq_true_eq] at h
 obtain ⟨h1, h2⟩ := h
 have h3 : 0 ≤ e.op ∧ e.op < 14 := by
  unfold zb3 at h1
  split at h1
  ·omega
  ·split at h1
   ·omega
   ·split at h1
    ·omega
    ·split at h1
     ·omega
     ·omega
 refine ⟨h1, h3.1, h3.2, fun ha hb x hx => ?_⟩
 rw [if_neg ha] at h2
 split at h2
 ·cases h2
 ·simp only [if_neg hb, Bool.and_eq_true, Bool.not_eq_true', List.any_eq_false, Bool.not_eq_true] at h2
  have := h2.2 x hx
  simpa using this
theorem ziD (g : GM) (m : LM) : ∀ (d : Nat) (e : Exp), zbx d e = true → Fun Tryz.prog 180 [.u (jU g m), zes e] (· = .tup [.u (.int .i64 (zdV (gF g) (mF m) e).1), .u (.int .i64 (zdV (gF g) (mF m) e).2)])
 | 0, e, h => by simp [zbx] at h
 | d + 1, e, h => by
  obtain ⟨h1, h2, h3, h4⟩ := zh4 h
  have hg := zqe g e.s
  have hm := zqd m e.s
  by_cases h0 : e.op = 0
  ·rw [ziE, if_pos h0]
   (refine Fun.of_body Tryz.func180 rfl (by simp) fun Γ hn => ?_); simp only [entry, ziC, ziN, maC, maN, oA, Tryz.ntmps180]
   simp only [zes, jU]
   repeat' (first
  | ((first | refine zag ?_ | refine zak ?_ | refine zah ?_ | refine zai ?_ | refine zaA ?_ | fail); simp [h0])
  | (refine zau ?_; simp only [zao])
  | fail)
   (refine EndOK.val (.inr rfl) ?_; simp [zaI, zaf, zaw, Tryz.results180])
  by_cases hnm : e.op = 1
  ·rw [ziE, if_neg h0, if_pos hnm]
   (refine Fun.of_body Tryz.func180 rfl (by simp) fun Γ hn => ?_); simp only [entry, ziC, ziN, maC, maN, oA, Tryz.ntmps180]
   simp only [zes, jU]
   cases hga : asc g e.s with
   | some u =>
    rw [hga] at hg
    simp only [Option.map_some] at hg
    repeat' (first
  | ((first | refine zag ?_ | refine zbU ?_ | refine zak ?_ | refine zah ?_ | refine zai ?_ | fail); simp [h0, hnm, hg])
  | (refine zcI ?_)
  | (refine hk _ ?_; clear hk k; simp only [zao])
  | (refine zbT rfl (by kernel_rfl) (by kernel_rfl) fun k hk => ?_; simp [h0, hnm, hg])
  | (refine zaA ?_; simp [h0, hnm, hg])
  | (refine zau ?_; simp only [zao])
  | fail)
    (refine EndOK.val (.inr rfl) ?_; simp [zaI, zaf, zaw, Tryz.results180])
    simp [gF, hga]
   | none =>
    rw [hga] at hg
    simp only [Option.map_none] at hg
    cases hma : asc m e.s with
    | some q =>
     rw [hma] at hm
     simp only [Option.map_some] at hm
     repeat' (first
  | ((first | refine zag ?_ | refine zhA rfl ?_ | refine zbU ?_ | refine zhB rfl ?_ | refine zak ?_ | refine zah ?_ | refine zai ?_ | fail); simp [h0, hnm, hg, hm])
  | (refine zgo (hC _ (by kernel_rfl)) (hk _ ?_); clear hC hk C k; simp only [zao])
  | (refine zcI ?_)
  | (refine hk _ ?_; clear hk k; simp only [zao])
  | (refine zbT rfl (by kernel_rfl) (by kernel_rfl) fun k hk => ?_; simp [h0, hnm, hg, hm])
  | (refine zhx rfl (by kernel_rfl) (by kernel_rfl) (by simp [hn]) fun C k hC hk => ?_; simp [h0, hnm, hg, hm])
  | (refine zaA ?_; simp [h0, hnm, hg, hm])
  | ((first | refine zau ?_ | refine zar ?_ | fail); simp only [zao])
  | fail)
     (refine EndOK.val (.inr rfl) ?_; simp [zaI, zaf, zaw, Tryz.results180])
     simp [gF, hga, mF, hma]
    | none =>
     rw [hma] at hm
     simp only [Option.map_none] at hm
     repeat' (first
  | ((first | refine zag ?_ | refine zhA rfl ?_ | refine zbU ?_ | refine zhB rfl ?_ | refine zak ?_ | refine zah ?_ | refine zai ?_ | fail); simp [h0, hnm, hg, hm])
  | (refine zgo (hC _ (by kernel_rfl)) (hk _ ?_); clear hC hk C k; simp only [zao])
  | (refine zcI ?_)
  | (refine hk _ ?_; clear hk k; simp only [zao])
  | (refine zbT rfl (by kernel_rfl) (by kernel_rfl) fun k hk => ?_; simp [h0, hnm, hg, hm])
  | (refine zhx rfl (by kernel_rfl) (by kernel_rfl) (by simp [hn]) fun C k hC hk => ?_; simp [h0, hnm, hg, hm])
  | (refine zaA ?_; simp [h0, hnm, hg, hm])
  | ((first | refine zau ?_ | refine zar ?_ | fail); simp only [zao])
  | fail)
     (refine EndOK.val (.inr rfl) ?_; simp [zaI, zaf, zaw, Tryz.results180])
     simp [gF, hga, mF, hma]
  rw [ziE, if_neg h0, if_neg hnm]
  (refine Fun.of_body Tryz.func180 rfl (by simp) fun Γ hn => ?_); simp only [entry, ziC, ziN, maC, maN, oA, Tryz.ntmps180]
  simp only [zes, jU]
  have hr := h4 h0 hnm
  repeat' (first
  | ((first | refine zag ?_ | refine zak ?_ | refine zah ?_ | refine zai ?_ | refine zaA ?_ | fail); simp [h0, hnm])
  | (refine zar ?_; simp only [zao])
  | fail)
  refine zmJ _ (Wk.own 10 3 1 (by decide) rfl) ?_
  simp [St.own]
  refine zcn (α := { p : Nat × List Int // p.1 ≤ e.args.length ∧ p.2 = (e.args.take p.1).map (fun x => (zdV (gF g) (mF m) x).1) ∧ ∀ x ∈ e.args.take p.1, (zdV (gF g) (mF m) x).2 = 0 }) [0, 3, 53, 54]
   (fun p => [(10, .vec 1 p.1.2.length), (55, .u (.int .i64 p.1.1))]) (fun p => [(1, .vec 3 1 (rowsD (p.1.2.map fun n => [U.int .i64 n]))), (0, .box [.u (.int .i64 e.op), .u (.int .i64 e.n), .u (.int .i64 e.unit), .u (.str e.s), .u (.sl (e.args.map Exp.row))])]) 2
   (fun p => e.args.length - p.1.1) ⟨(0, []), by simp, by simp, by simp⟩ ?_ ?_
  ·exact (Wk.cut rfl (by simp [hn, St.lp]) (by simp [wkO, St.lp, zaa, getK, Ob.under, D.under, zad, zae]) (by simp [wkU, St.lp, zal, zaa, getK, D.under]) (by simp [wkE, St.lp, zal, zaa, getK] <;> (try (intros; simp_all; done)) <;> (try (intros; omega)) <;> (try grind)))
  rintro ⟨⟨i, acc⟩, hi, hacc, hb⟩
  simp only at hi hacc hb
  simp [St.lp, St.only, zal, zaa, getK]
  rcases hx : e.args[i]? with _ | x
  ·have hge : e.args.length ≤ i := by simpa using hx
   rw [List.take_of_length_le hge] at hacc hb
   have hok := zjp hb
   rw [← hacc] at hok
   have hal : (acc.length : Int) = zb3 e.op := by rw [hacc]; simpa using h1
   have h5 := zpz e.op acc (by omega) hal
   simp only [ints] at h5
   generalize hcb : zhV e.op acc = cb at h5
   obtain ⟨c1, c2⟩ := cb
   repeat' (first
  | ((first | refine zag ?_ | refine zak ?_ | fail); simp [hx, h0, hnm])
  | (refine ⟨by omega, ?_⟩)
  | ((first | refine zah ?_ | refine zai ?_ | fail); simp [hx, h0, hnm])
  | ((first | refine zau ?_ | refine zar ?_ | fail); simp only [zao])
  | (refine za9 ?_; simp [zao])
  | (refine ⟨fun hc => ?_, fun hc => ?_⟩ <;> (try (exfalso; omega)))
  | (intro hc <;> (try (exfalso; omega)))
  | (refine CallP.fE (h5) (by first | rfl | fail) (by first | simp [hx, h0, hnm] <;> rfl | fail) ?_; (try simp [hx, h0, hnm]))
  | fail)
   all_goals
    (refine EndOK.val (.inr rfl) ?_; simp [zaI, zaf, zaw, Tryz.results180])
   all_goals (rw [hok]; simp_all; done)
  ·have hlt : i < e.args.length := (lGE.1 hx).1
   have h5 := ziD g m d x (hr x (List.mem_of_getElem? hx))
   simp only [zes, jU] at h5
   have hal : acc.length = i := by rw [hacc]; simp; omega
   have h3a : e.args.length ≤ 3 := by
    have : zb3 e.op ≤ 3 := by unfold zb3; repeat' split
                              all_goals omega
    omega
   have her := fun h => zh0 (g := gF g) (m := mF m) hx hb h
   generalize hun : zdV (gF g) (mF m) x = un at h5 her
   obtain ⟨u, er⟩ := un
   repeat' (first
  | ((first | refine zag ?_ | refine zak ?_ | fail); simp [hx, x.row_eq, h0, hnm])
  | (refine ⟨by omega, ?_⟩)
  | ((first | refine zah ?_ | refine zai ?_ | refine zat ?_ | fail); simp [hx, x.row_eq, h0, hnm])
  | ((first | refine zau ?_ | refine zar ?_ | fail); simp only [zao])
  | (refine ⟨?_, by omega⟩)
  | (refine ⟨fun hc => ?_, fun hc => ?_⟩ <;> (try (exfalso; omega)))
  | (intro hc <;> (try (exfalso; omega)))
  | (refine CallP.fE (h5) (by first | rfl | fail) (by first | simp [hx, x.row_eq, h0, hnm] <;> rfl | fail) ?_; (try simp [hx, x.row_eq, h0, hnm]))
  | fail)
   ·(refine EndOK.val (.inr rfl) ?_; simp [zaI, zaf, zaw, Tryz.results180])
    rw [her (by simpa using (by assumption : ¬ er = 0))]
    simp
   ·skip
    refine LoopW.next ⟨(i + 1, acc ++ [u]), (by omega : i + 1 ≤ e.args.length), (?_ : acc ++ [u] = _), ?_⟩ (by simp; omega) ?_
    ·rw [List.take_succ_eq_append_getElem hlt, List.map_append, ← hacc, (lGE.1 hx).2]
     simp [hun]
    ·exact zaY hx hb (by simp_all)
    ·exact (Wk.ren ((fun i => if i = 1 then 4 else i)) rfl (by first | (simp [hn]; done) | (intro i hi; rw [hn] at hi; constructor <;> (try simp) <;> (try (intro _)) <;> omega)) (by simp [zjk, St.lp, zal, zaa, getK, zac, zan, D.under, D.le, D.ren] <;> (try (intros; simp_all; done)) <;> (try omega)) (by simp [wkR, St.lp, zaa, getK, zac, zan, obR, leU, zb2, za4, Ob.under, D.under, D.le, D.ren] <;> (try (intros; simp_all; done)) <;> (try omega)) (by simp))
theorem zeG (g : GM) (m : LM) : ∀ (d : Nat) (e : Exp), zbx d e = true → Fun Tryz.prog 228 [.u (jU g m), zes e] (· = .u (.bool (zgp (sF m) e)))
 | 0, e, h => by simp [zbx] at h
 | d + 1, e, h => by
  obtain ⟨h1, h2, h3, h4⟩ := zh4 h
  rw [zm2]
  have hm := zqd m e.s
  by_cases h0 : e.op = 0
  ·rw [if_pos h0]
   (refine Fun.of_body Tryz.func228 rfl (by simp) fun Γ hn => ?_); simp only [entry, ziC, ziN, maC, maN, oA, Tryz.ntmps228]
   simp only [zes, jU]
   repeat' (first
  | ((first | refine zag ?_ | refine zak ?_ | refine zah ?_ | refine zai ?_ | refine zaA ?_ | fail); simp [h0])
  | (refine zau ?_; simp only [zao])
  | fail)
   (refine EndOK.val (.inr rfl) ?_; simp [zaI, zaf, zaw, Tryz.results228])
  rw [if_neg h0]
  by_cases hnm : e.op = 1
  ·rw [if_pos hnm]
   cases hma : asc m e.s with
   | some q =>
    rw [hma] at hm
    simp only [Option.map_some] at hm
    (refine Fun.of_body Tryz.func228 rfl (by simp) fun Γ hn => ?_); simp only [entry, ziC, ziN, maC, maN, oA, Tryz.ntmps228]
    simp only [zes, jU]
    repeat' (first
  | ((first | refine zag ?_ | refine zbU ?_ | refine zak ?_ | refine zah ?_ | refine zai ?_ | fail); simp [h0, hnm, hm])
  | (refine zcI ?_)
  | (refine hk _ ?_; clear hk k; simp only [zao])
  | (refine zbT rfl (by kernel_rfl) (by kernel_rfl) fun k hk => ?_; simp [h0, hnm, hm])
  | (refine zaA ?_; simp [h0, hnm, hm])
  | (refine zau ?_; simp only [zao])
  | fail)
    (refine EndOK.val (.inr rfl) ?_; simp [zaI, zaf, zaw, Tryz.results228])
    simp [sF, hma]
   | none =>
    rw [hma] at hm
    simp only [Option.map_none] at hm
    (refine Fun.of_body Tryz.func228 rfl (by simp) fun Γ hn => ?_); simp only [entry, ziC, ziN, maC, maN, oA, Tryz.ntmps228]
    simp only [zes, jU]
    repeat' (first
  | ((first | refine zag ?_ | refine zbU ?_ | refine zak ?_ | refine zah ?_ | refine zai ?_ | fail); simp [h0, hnm, hm])
  | (refine zcI ?_)
  | (refine hk _ ?_; clear hk k; simp only [zao])
  | (refine zbT rfl (by kernel_rfl) (by kernel_rfl) fun k hk => ?_; simp [h0, hnm, hm])
  | (refine zaA ?_; simp [h0, hnm, hm])
  | (refine zau ?_; simp only [zao])
  | fail)
    (refine EndOK.val (.inr rfl) ?_; simp [zaI, zaf, zaw, Tryz.results228])
    simp [sF, hma]
  rw [if_neg hnm]
  have hr := h4 h0 hnm
  by_cases hA : e.op = 2 ∨ e.op = 3 ∨ e.op = 6 ∨ e.op = 7
  ·rw [if_pos hA]
   have hl : e.args.length = 2 := by
    rcases hA with ha | ha | ha | ha <;> rw [ha] at h1 <;> simp [zb3] at h1 <;> omega
   obtain ⟨a, b, hab⟩ : ∃ a b, e.args = [a, b] := by
    match hq : e.args, hl with
    | [a, b], _ => exact ⟨a, b, rfl⟩
   have h5 := zeG g m d a (hr a (by simp [hab]))
   simp only [zes, jU] at h5
   rw [hab, zdC]
   rcases hA with ha | ha | ha | ha
   all_goals
    (refine Fun.of_body Tryz.func228 rfl (by simp) fun Γ hn => ?_); simp only [entry, ziC, ziN, maC, maN, oA, Tryz.ntmps228]
    simp only [zes, jU]
    repeat' (first
  | ((first | refine zag ?_ | refine zak ?_ | refine zah ?_ | refine zai ?_ | refine zaA ?_ | refine zat ?_ | fail); simp [ha, hab, a.row_eq, b.row_eq])
  | ((first | refine zau ?_ | refine zar ?_ | fail); simp only [zao])
  | (refine CallP.fE (h5) (by first | rfl | fail) (by first | simp [ha, hab, a.row_eq, b.row_eq] <;> rfl | fail) ?_; (try simp [ha, hab, a.row_eq, b.row_eq]))
  | fail)
    (refine EndOK.val (.inr rfl) ?_; simp [zaI, zaf, zaw, Tryz.results228])
  rw [if_neg hA]
  by_cases hB : e.op = 4
  ·rw [if_pos hB]
   have hl : e.args.length = 2 := by rw [hB] at h1; simp [zb3] at h1; omega
   obtain ⟨a, b, hab⟩ : ∃ a b, e.args = [a, b] := by
    match hq : e.args, hl with
    | [a, b], _ => exact ⟨a, b, rfl⟩
   have h5 := zeG g m d a (hr a (by simp [hab]))
   have h6 := zeG g m d b (hr b (by simp [hab]))
   simp only [zes, jU] at h5 h6
   rw [hab, zdC, zdC, zdC]
   generalize zgp (sF m) a = x1 at h5 ⊢
   generalize zgp (sF m) b = x2 at h6 ⊢
   (refine Fun.of_body Tryz.func228 rfl (by simp) fun Γ hn => ?_); simp only [entry, ziC, ziN, maC, maN, oA, Tryz.ntmps228]
   simp only [zes, jU]
   repeat' (first
  | ((first | refine zag ?_ | refine zak ?_ | refine zah ?_ | refine zai ?_ | refine zaA ?_ | refine zat ?_ | fail); simp [hB, hab, a.row_eq, b.row_eq])
  | (refine zau ?_; simp only [zao])
  | (refine ⟨fun hc => ?_, fun hc => ?_⟩ <;> (try (exfalso; omega)))
  | (refine CallP.fE (h5) (by first | rfl | fail) (by first | simp [hB, hab, a.row_eq, b.row_eq] <;> rfl | fail) ?_; (try simp [hB, hab, a.row_eq, b.row_eq]))
  | (refine CallP.fE (h6) (by first | rfl | fail) (by first | simp [hB, hab, a.row_eq, b.row_eq] <;> rfl | fail) ?_; (try simp [hB, hab, a.row_eq, b.row_eq]))
  | fail)
   all_goals
    (refine EndOK.val (.inr rfl) ?_; simp [zaI, zaf, zaw, Tryz.results228])
   all_goals (simp_all; done)
  rw [if_neg hB]
  by_cases hC : e.op = 13
  ·rw [if_pos hC]
   have hl : e.args.length = 3 := by rw [hC] at h1; simp [zb3] at h1; omega
   obtain ⟨a, b, c, hab⟩ : ∃ a b c, e.args = [a, b, c] := by
    match hq : e.args, hl with
    | [a, b, c], _ => exact ⟨a, b, c, rfl⟩
   have h5 := zeG g m d b (hr b (by simp [hab]))
   simp only [zes, jU] at h5
   rw [hab, zdC, zdC]
   (refine Fun.of_body Tryz.func228 rfl (by simp) fun Γ hn => ?_); simp only [entry, ziC, ziN, maC, maN, oA, Tryz.ntmps228]
   simp only [zes, jU]
   repeat' (first
  | ((first | refine zag ?_ | refine zak ?_ | refine zah ?_ | refine zai ?_ | refine zaA ?_ | refine zat ?_ | fail); simp [hC, hab, a.row_eq, b.row_eq, c.row_eq])
  | (refine zau ?_; simp only [zao])
  | (refine CallP.fE (h5) (by first | rfl | fail) (by first | simp [hC, hab, a.row_eq, b.row_eq, c.row_eq] <;> rfl | fail) ?_; (try simp [hC, hab, a.row_eq, b.row_eq, c.row_eq]))
  | fail)
   (refine EndOK.val (.inr rfl) ?_; simp [zaI, zaf, zaw, Tryz.results228])
  rw [if_neg hC]
  have hD : ¬ e.op = 2 ∧ ¬ e.op = 3 ∧ ¬ e.op = 6 ∧ ¬ e.op = 7 := by omega
  (refine Fun.of_body Tryz.func228 rfl (by simp) fun Γ hn => ?_); simp only [entry, ziC, ziN, maC, maN, oA, Tryz.ntmps228]
  simp only [zes, jU]
  repeat' (first
  | ((first | refine zag ?_ | refine zak ?_ | refine zah ?_ | refine zai ?_ | refine zaA ?_ | refine zat ?_ | fail); simp [h0, hnm, hB, hC, hD.1, hD.2.1, hD.2.2.1, hD.2.2.2])
  | ((first | refine zau ?_ | refine zar ?_ | fail); simp only [zao])
  | fail)
  (refine EndOK.val (.inr rfl) ?_; simp [zaI, zaf, zaw, Tryz.results228])
theorem zqB (l : Let) : Fun Tryz.prog 227 (zpd l :: [].map .u) (· = .u (.bool (!zbx 12 l.body))) := by
 have h1 := zeI l.body
 simp only [zpd, List.map_nil, zes] at h1 ⊢
 (refine Fun.of_body Tryz.func227 rfl (by simp) fun Γ hn => ?_); simp only [entry, ziC, ziN, maC, maN, oA, Tryz.ntmps227]
 repeat' (first
  | ((first | refine zag ?_ | refine zak ?_ | refine zah ?_ | fail); simp)
  | (refine zau ?_; simp only [zao])
  | (refine CallP.fE (h1) (by first | rfl | fail) (by first | (simp; done) | (simp; rfl) | fail) ?_; (try simp))
  | fail)
 (refine EndOK.val (.inr rfl) ?_; simp [zaI, zaf, zaw, Tryz.results227])
def zgw (l : List Var) : U := .sl (l.map fun v => [.str v.name, .int .i64 v.unit, .int .i64 v.n])
/-- What the given names mean. -/
def gOf (names : List Var) : GM := names.foldl (fun g v => if asc g v.name = none then zfS g v.name v.unit else g) []
/-- What the lets mean. -/
def mOf (g : GM) (lets : List Let) : LM := lets.foldl (fun m l => zfS m l.name ((zdV (gF g) (mF m) l.body).1, (zdV (gF g) (mF m) l.body).2, zgp (sF m) l.body)) []
def zgX (v : Var) : Bool := decide (0 ≤ v.unit) && decide (v.unit < 5)
def zgF (lets : List Let) (e : Exp) : Bool := decide (lets.length ≤ 20) && zbx 12 e && !lets.any (fun l => !zbx 12 l.body)
def okJ (lets : List Let) (names : List Var) (e : Exp) : Bool := zgF lets e && names.all zgX
def znS (lets : List Let) (names : List Var) (e : Exp) : D := if okJ lets names e = true then .tup [.u (jU (gOf names) (mOf (gOf names) lets)), .u (.bool true)] else .tup [.u (.oth (.pointer none)), .u (.bool false)]
theorem zmR (g : GM) (x : List UInt8) (u : Int) : zdl (zpp g) (.s x) [U.int .i64 u] = zpp (zfS g x u) := ziA (fun u : Int => [U.int .i64 u]) x u g
theorem zjm (g : LM) (x : List UInt8) (u e : Int) (b : Bool) : zdl (zqf g) (.s x) [U.int .i64 u, .int .i64 e, .bool b] = zqf (zfS g x (u, e, b)) := ziA (fun q : Int × Int × Bool => [U.int .i64 q.1, .int .i64 q.2.1, .bool q.2.2]) x (u, e, b) g
theorem zim {α β : Type} (f : β → α → β) (b : β) {l : List α} {i : Nat} {x : α} (h : l[i]? = some x) : (l.take (i + 1)).foldl f b = f ((l.take i).foldl f b) x := by
 obtain ⟨hi, rfl⟩ := lGE.1 h
 rw [List.take_succ_eq_append_getElem hi, List.foldl_append]
 rfl
theorem zpq {names : List Var} {i : Nat} {v : Var} (h : names[i]? = some v) : gOf (names.take (i + 1)) = if asc (gOf (names.take i)) v.name = none then zfS (gOf (names.take i)) v.name v.unit else gOf (names.take i) := zim _ _ h
theorem zo0 {g : GM} {lets : List Let} {i : Nat} {l : Let} (h : lets[i]? = some l) : mOf g (lets.take (i + 1)) = zfS (mOf g (lets.take i)) l.name ((zdV (gF g) (mF (mOf g (lets.take i))) l.body).1, (zdV (gF g) (mF (mOf g (lets.take i))) l.body).2, zgp (sF (mOf g (lets.take i))) l.body) := zim _ _ h
theorem znR (lets : List Let) (names : List Var) (e : Exp) : Fun Tryz.prog 179 [.u (zeO lets), .u (zgw names), zes e] (· = znS lets names e) := by
 have h1 := zeI e
 have h2 := zeu lets 227 [] _ (fun x _ => zqB x) (by simp) (fun _ => rfl) (fun _ => rfl)
 simp only [List.map_nil, zeO, zes] at h1 h2
 generalize hre : zbx 12 e = re at h1
 generalize hrl : (lets.any fun l => !zbx 12 l.body) = rl at h2
 have hok0 : okJ lets names e = (decide (lets.length ≤ 20) && re && !rl && names.all zgX) := by rw [okJ, zgF, hre, hrl]
 have hre' := hre
 have hrl' := hrl
 clear hre hrl
 unfold znS
 generalize okJ lets names e = K at hok0 ⊢
 (refine Fun.of_bodyW Tryz.func179 rfl (by simp) fun Γ hn => ?_); simp only [entry, ziC, ziN, maC, maN, oA, Tryz.ntmps179]
 simp only [zes, zeO, zgw]
 refine zgD (x := 0) rfl fun hl0 => ?_
 refine zgD (x := 1) rfl fun hl1 => ?_
 simp only [List.length_map] at hl0 hl1
 repeat' (first
  | ((first | refine zag ?_ | refine zak ?_ | refine zah ?_ | refine zai ?_ | refine zaA ?_ | fail); simp)
  | ((first | refine zau ?_ | refine zar ?_ | fail); simp only [zao])
  | (refine ⟨fun hc => ?_, fun hc => ?_⟩ <;> (try (exfalso; omega)))
  | (refine CallP.fE (h1) (by first | rfl | fail) (by first | (simp; done) | (simp; rfl) | fail) ?_; (try simp))
  | (refine CallP.fE (h2) (by first | rfl | fail) (by first | (simp; done) | (simp; rfl) | fail) ?_; (try simp))
  | fail)
 all_goals try (refine EndW.here ?_; have hKf : K = false := (by first | (rw [hok0]; clear h1 h2 hok0 hre' hrl'; simp; intros; simp_all; done) | (rw [hok0]; clear h1 h2 hok0 hre' hrl'; simp; intros; omega) | fail); subst hKf; (refine EndOK.val (.inr rfl) ?_; simp [zaI, zaf, zaw, Tryz.results179]); done)
 refine zcn (α := { i : Nat // i ≤ names.length ∧ ∀ v ∈ names.take i, zgX v = true }) [0, 8, 33, 34] (fun i => [(35, .u (.int .i64 i.1))])
  (fun i => [(3, .box [.mp 1, .mp 2]), (2, .map .s true []), (1, .map .s false (zi3 (zpp (gOf (names.take i.1))))), (0, .box [.u (.int .i64 e.op), .u (.int .i64 e.n), .u (.int .i64 e.unit), .u (.str e.s), .u (.sl (e.args.map Exp.row))])]) 4
  (fun i => names.length - i.1) ⟨0, by omega, by simp⟩ ?_ ?_
 ·exact (Wk.cut rfl (by simp [hn, St.lp]) (by simp [wkO, St.lp, zaa, getK, Ob.under, D.under, zad, zae, gOf, zpp, zbl, Ob.under]) (by simp [wkU, St.lp, zal, zaa, getK, D.under, gOf, zpp, zbl, Ob.under]) (by simp [wkE, St.lp, zal, zaa, getK, gOf, zpp, zbl, Ob.under] <;> (try (intros; simp_all; done)) <;> (try (intros; omega)) <;> (try grind)))
 rintro ⟨i, hi, hb⟩
 simp [St.lp, St.only, zal, zaa, getK]
 rcases hx : names[i]? with _ | v
 ·have hge : names.length ≤ i := by simpa using hx
  obtain rfl : i = names.length := by omega
  rw [List.take_length] at hb
  have hall : names.all zgX = true := by simpa [List.all_eq_true] using hb
  repeat' (first
  | ((first | refine zag ?_ | refine zak ?_ | refine zah ?_ | refine zaA ?_ | fail); simp [hx])
  | (refine za9 ?_; simp [zao])
  | fail)
  refine zcn (α := { i : Nat // i ≤ lets.length }) [8, 68, 69] (fun i => [(70, .u (.int .i64 i.1))])
   (fun i => [(3, .box [.mp 1, .mp 2]), (2, .map .s true (zi3 (zqf (mOf (gOf names) (lets.take i.1))))), (1, .map .s false (zi3 (zpp (gOf names)))), (0, .box [.u (.int .i64 e.op), .u (.int .i64 e.n), .u (.int .i64 e.unit), .u (.str e.s), .u (.sl (e.args.map Exp.row))])]) 4
   (fun i => lets.length - i.1) ⟨0, by omega⟩ ?_ ?_
  ·exact (Wk.cut rfl (by simp [hn, St.lp]) (by simp [wkO, St.lp, zaa, getK, Ob.under, D.under, zad, zae, mOf, zqf, zbl, Ob.under]) (by simp [wkU, St.lp, zal, zaa, getK, D.under, mOf, zqf, zbl, Ob.under]) (by simp [wkE, St.lp, zal, zaa, getK, mOf, zqf, zbl, Ob.under] <;> (try (intros; simp_all; done)) <;> (try (intros; omega)) <;> (try grind)))
  rintro ⟨k, hk0⟩
  simp [St.lp, St.only, zal, zaa, getK]
  rcases hy : lets[k]? with _ | l
  ·have hgk : lets.length ≤ k := by simpa using hy
   obtain rfl : k = lets.length := by omega
   obtain rfl : K = true := by
    rw [hok0, hall]
    have : lets.length ≤ 20 := by omega
    clear h1 h2
    simp_all
   repeat' (first
  | ((first | refine zag ?_ | refine zak ?_ | refine zah ?_ | fail); simp [hy])
  | (refine zau ?_; simp only [zao])
  | (refine za9 ?_; simp [zao])
  | fail)
   (refine EndW.frzN 2 ?_; simp [frzN, frz1, zaC, zaB, St.frz, St.frzS, frzS, fv, zaQ, za2, za3, frzObS, zay, zas, del, frz, za7])
   (refine EndW.frzB 3 ?_; simp [frzB, zaC, zaB, St.frzS, frzS, fv, zaQ, za2, za3, frzObS, zay, zas, del])
   refine EndW.here ?_
   (refine EndOK.val (.inr rfl) ?_; simp [zaI, zaf, zaw, Tryz.results179])
   rfl
  ·have hltk : k < lets.length := (lGE.1 hy).1
   have hsu := zo0 (g := gOf names) hy
   have hrl : zbx 12 l.body = true := by
    have h7 : (lets.any fun l => !zbx 12 l.body) = false := by rw [hrl']; assumption
    rw [List.any_eq_false] at h7
    simpa using h7 l (List.mem_of_getElem? hy)
   have h5 := ziD (gOf names) (mOf (gOf names) (lets.take k)) 12 l.body hrl
   have h6 := zeG (gOf names) (mOf (gOf names) (lets.take k)) 12 l.body hrl
   simp only [zes, jU] at h5 h6
   repeat' (first
  | ((first | refine zag ?_ | refine zhA rfl ?_ | refine zhB rfl ?_ | refine zak ?_ | fail); simp [hy, zjm])
  | (refine ⟨by omega, ?_⟩)
  | (refine zah ?_; simp [hy, zjm])
  | (refine zgo (hC _ (by kernel_rfl)) (hk _ ?_); clear hC hk C k; simp only [zao])
  | (refine zhx rfl (by kernel_rfl) (by kernel_rfl) (by simp [hn]) fun C k hC hk => ?_; simp [hy, zjm])
  | (refine zat ?_; simp [hy, zjm])
  | (refine zar ?_; simp only [zao])
  | (refine ⟨?_, by omega⟩)
  | (intro hc <;> (try (exfalso; omega)))
  | (refine CallP.fE (h5) (by first | rfl | fail) (by first | simp [hy, zjm] <;> rfl | fail) ?_; (try simp [hy, zjm]))
  | (refine CallV.fun_ (h6) (by first | rfl | fail) (by first | simp [hy, zjm] <;> rfl | fail) ?_ <;> (try simp [hy, zjm]))
  | fail)
   refine LoopW.next ⟨k + 1, by omega⟩ (by simp; omega) ?_
   exact (Wk.cut rfl (by simp [hn, St.lp]) (by simp [wkO, St.lp, zaa, getK, Ob.under, D.under, zad, zae, hsu]) (by simp [wkU, St.lp, zal, zaa, getK, D.under, hsu]) (by simp [wkE, St.lp, zal, zaa, getK, hsu] <;> (try (intros; simp_all; done)) <;> (try (intros; omega)) <;> (try grind)))
 ·have hlt : i < names.length := (lGE.1 hx).1
  have hg := zqe (gOf (names.take i)) v.name
  have hsu := zpq hx
  have hok : zgX v = (decide (0 ≤ v.unit) && decide (v.unit < 5)) := rfl
  have hbad : zgX v = false → names.all zgX = false := fun h => by
   rw [List.all_eq_false]
   exact ⟨v, List.mem_of_getElem? hx, by simp [h]⟩
  cases hga : asc (gOf (names.take i)) v.name with
  | some u =>
   rw [hga] at hg hsu
   simp only [Option.map_some] at hg
   repeat' (first
  | ((first | refine zag ?_ | refine zbU ?_ | refine zak ?_ | fail); simp [hx, hg])
  | (refine ⟨by omega, ?_⟩)
  | ((first | refine zah ?_ | refine zai ?_ | fail); simp [hx, hg])
  | (refine zcI ?_)
  | (refine hk _ ?_; clear hk k; simp only [zao])
  | (refine zbT rfl (by kernel_rfl) (by kernel_rfl) fun k hk => ?_; simp [hx, hg])
  | (refine zat ?_; simp [hx, hg])
  | ((first | refine zau ?_ | refine zar ?_ | fail); simp only [zao])
  | (refine ⟨?_, by omega⟩)
  | (refine ⟨fun hc => ?_, fun hc => ?_⟩ <;> (try (exfalso; omega)))
  | (intro hc <;> (try (exfalso; omega)))
  | fail)
   all_goals first
    | (refine LoopW.next ⟨i + 1, by omega, zaY hx hb (by rw [hok]; simp; omega)⟩ (by simp; omega) ?_; exact (Wk.cut rfl (by simp [hn, St.lp]) (by simp [wkO, St.lp, zaa, getK, Ob.under, D.under, zad, zae, hsu]) (by simp [wkU, St.lp, zal, zaa, getK, D.under, hsu]) (by simp [wkE, St.lp, zal, zaa, getK, hsu] <;> (try (intros; simp_all; done)) <;> (try (intros; omega)) <;> (try grind))))
    | (refine EndW.here ?_; have hKf : K = false := (by first | (rw [hok0, hbad (by rw [hok]; simp; omega)]; simp; done) | fail); subst hKf; (refine EndOK.val (.inr rfl) ?_; simp [zaI, zaf, zaw, Tryz.results179]))
  | none =>
   rw [hga] at hg hsu
   simp only [Option.map_none] at hg
   repeat' (first
  | ((first | refine zag ?_ | refine zhA rfl ?_ | refine zbU ?_ | refine zhB rfl ?_ | refine zak ?_ | fail); simp [hx, hg, zmR])
  | (refine ⟨by omega, ?_⟩)
  | ((first | refine zah ?_ | refine zai ?_ | fail); simp [hx, hg, zmR])
  | (refine zgo (hC _ (by kernel_rfl)) (hk _ ?_); clear hC hk C k; simp only [zao])
  | (refine zcI ?_)
  | (refine hk _ ?_; clear hk k; simp only [zao])
  | (refine zbT rfl (by kernel_rfl) (by kernel_rfl) fun k hk => ?_; simp [hx, hg, zmR])
  | (refine zhx rfl (by kernel_rfl) (by kernel_rfl) (by simp [hn]) fun C k hC hk => ?_; simp [hx, hg, zmR])
  | (refine zat ?_; simp [hx, hg, zmR])
  | ((first | refine zau ?_ | refine zar ?_ | fail); simp only [zao])
  | (refine ⟨?_, by omega⟩)
  | (refine ⟨fun hc => ?_, fun hc => ?_⟩ <;> (try (exfalso; omega)))
  | (intro hc <;> (try (exfalso; omega)))
  | fail)
   all_goals first
    | (refine LoopW.next ⟨i + 1, by omega, zaY hx hb (by rw [hok]; simp; omega)⟩ (by simp; omega) ?_; exact (Wk.cut rfl (by simp [hn, St.lp]) (by simp [wkO, St.lp, zaa, getK, Ob.under, D.under, zad, zae, hsu]) (by simp [wkU, St.lp, zal, zaa, getK, D.under, hsu]) (by simp [wkE, St.lp, zal, zaa, getK, hsu] <;> (try (intros; simp_all; done)) <;> (try (intros; omega)) <;> (try grind))))
    | (refine EndW.here ?_; have hKf : K = false := (by first | (rw [hok0, hbad (by rw [hok]; simp; omega)]; simp; done) | fail); subst hKf; (refine EndOK.val (.inr rfl) ?_; simp [zaI, zaf, zaw, Tryz.results179]))
def inB (lo hi : Int) (l : List Int) : Bool := !l.any fun n => decide (n < lo) || decide (hi < n)
theorem zqG (lo hi n : Int) : Fun Tryz.prog 166 (zmq n :: [U.row [.int .i64 lo] 0, U.row [.int .i64 hi] 0].map .u) (· = .u (.bool (decide (n < lo) || decide (hi < n)))) := by
 simp only [zmq, List.map_cons, List.map_nil]
 (refine Fun.of_body Tryz.func166 rfl (by simp) fun Γ hn => ?_); simp only [entry, ziC, ziN, maC, maN, oA, Tryz.ntmps166]
 repeat' (first
  | ((first | refine zag ?_ | refine zak ?_ | refine zah ?_ | fail); simp)
  | (refine zau ?_; simp only [zao])
  | (refine ⟨fun hc => ?_, fun hc => ?_⟩ <;> (try (exfalso; omega)))
  | fail)
 all_goals
  (refine EndOK.val (.inr rfl) ?_; simp [zaI, zaf, zaw, Tryz.results166])
 all_goals grind
theorem zjX (lo hi : Int) (l : List Int) : Fun Tryz.prog 98 [.u (.int .i64 lo), .u (.int .i64 hi), .u (ints l)] (· = .u (.bool (inB lo hi l))) := by
 have h1 := zev l 166 [U.row [.int .i64 lo] 0, U.row [.int .i64 hi] 0] _ (fun n _ => zqG lo hi n) (by simp) (fun _ => rfl) (fun _ => rfl)
 simp only [List.map_cons, List.map_nil] at h1
 unfold inB
 (refine Fun.of_body Tryz.func98 rfl (by simp) fun Γ hn => ?_); simp only [entry, ziC, ziN, maC, maN, oA, Tryz.ntmps98]
 simp only [ints] at h1 ⊢
 repeat' (first
  | ((first | refine zag ?_ | refine zak ?_ | refine zah ?_ | fail); simp)
  | (refine zau ?_; simp only [zao])
  | (refine CallP.fE (h1) (by first | rfl | fail) (by first | (simp; done) | (simp; rfl) | fail) ?_; (try simp))
  | fail)
 (refine EndOK.val (.inr rfl) ?_; simp [zaI, zaf, zaw, Tryz.results98])
theorem zf3 (x l : Let) : Fun Tryz.prog 100 (zpd x :: [U.row (zgr l) 0].map .u) (· = .u (.bool (decide (x.name = l.name)))) := by
 simp only [zpd, zgr, List.map_cons, List.map_nil]
 (refine Fun.of_body Tryz.func100 rfl (by simp) fun Γ hn => ?_); simp only [entry, ziC, ziN, maC, maN, oA, Tryz.ntmps100]
 repeat' (first
  | ((first | refine zag ?_ | refine zak ?_ | refine zah ?_ | fail); simp)
  | (refine zau ?_; simp only [zao])
  | fail)
 (refine EndOK.val (.inr rfl) ?_; simp [zaI, zaf, zaw, Tryz.results100])
structure By where
 kind : Int
 period : Int
 grace : Int
 wait : Int
 last : Int
 order : Int
 sld : Bool
 backs : Int
 voices : Int
 jury : Int
 fund : Int
 lets : List Let
 due : Exp
 fine : Exp
 pay : Exp
 cover : Exp
 hold : Exp
 deriving Inhabited
def zbr (b : By) : List U := [.int .i64 b.kind, .int .i64 b.period, .int .i64 b.grace, .int .i64 b.wait, .int .i64 b.last, .int .i64 b.order, .bool b.sld, .int .i64 b.backs, .int .i64 b.voices, .int .i64 b.jury, .int .i64 b.fund,
 .sl (b.lets.map fun l => [.str l.name, .int .i64 l.body.op, .int .i64 l.body.n, .int .i64 l.body.unit, .str l.body.s, .sl (l.body.args.map Exp.row)]),
 .int .i64 b.due.op, .int .i64 b.due.n, .int .i64 b.due.unit, .str b.due.s, .sl (b.due.args.map Exp.row),
 .int .i64 b.fine.op, .int .i64 b.fine.n, .int .i64 b.fine.unit, .str b.fine.s, .sl (b.fine.args.map Exp.row),
 .int .i64 b.pay.op, .int .i64 b.pay.n, .int .i64 b.pay.unit, .str b.pay.s, .sl (b.pay.args.map Exp.row),
 .int .i64 b.cover.op, .int .i64 b.cover.n, .int .i64 b.cover.unit, .str b.cover.s, .sl (b.cover.args.map Exp.row),
 .int .i64 b.hold.op, .int .i64 b.hold.n, .int .i64 b.hold.unit, .str b.hold.s, .sl (b.hold.args.map Exp.row)]
def zqI (b : By) : Bool := inB 0 2 [b.kind] && inB 0 2 [b.order] && inB 1 1000 [b.period, b.last] && inB 0 1000 [b.grace, b.wait, b.voices, b.fund] && inB 0 60 [b.backs, b.jury]
def zjS (seen : List Let) : List Let → Bool
 | [] => true
 | l :: r => zep l.name && zbx 12 l.body && !seen.any (fun x => decide (x.name = l.name)) && zjS (seen ++ [l]) r
theorem zo5 {L : List Let} {i : Nat} {l : Let} (h : L[i]? = some l) : zjS (L.take i) (L.drop i) = (zep l.name && zbx 12 l.body && !(L.take i).any (fun x => decide (x.name = l.name)) && zjS (L.take (i + 1)) (L.drop (i + 1))) := by
 obtain ⟨hi, rfl⟩ := lGE.1 h
 rw [List.drop_eq_getElem_cons hi, zjS, List.take_succ_eq_append_getElem hi]
def zqO (b : By) : Bool := zbx 12 b.due && zbx 12 b.fine && zbx 12 b.pay && zbx 12 b.cover && zbx 12 b.hold
def zcX (b : By) : Bool := zqI b && !(b.sld && decide (b.kind ≠ 1)) && decide (b.lets.length ≤ 20) && zjS [] b.lets && zqO b
set_option maxRecDepth 100000 in
set_option maxHeartbeats 4000000 in
theorem zg3 (b : By) : Fun Tryz.prog 40 [.u (.agg (zbr b))] (· = .u (.bool (zcX b))) := by
 have i1 := zjX 0 2 [b.kind]
 have i2 := zjX 0 2 [b.order]
 have i3 := zjX 1 1000 [b.period, b.last]
 have i4 := zjX 0 1000 [b.grace, b.wait, b.voices, b.fund]
 have i5 := zjX 0 60 [b.backs, b.jury]
 simp only [ints, List.map_cons, List.map_nil] at i1 i2 i3 i4 i5
 have hr : ∀ e : Exp, Fun Tryz.prog 89 [.u (.agg [.int .i64 e.op, .int .i64 e.n, .int .i64 e.unit, .str e.s, .sl (e.args.map Exp.row)])] (· = .u (.bool (zbx 12 e))) := fun e => zeI e
 have e1 := hr b.due
 have e2 := hr b.fine
 have e3 := hr b.pay
 have e4 := hr b.cover
 have e5 := hr b.hold
 unfold zcX zqI zqO
 generalize inB 0 2 [b.kind] = c1 at i1 ⊢
 generalize inB 0 2 [b.order] = c2 at i2 ⊢
 generalize inB 1 1000 [b.period, b.last] = c3 at i3 ⊢
 generalize inB 0 1000 [b.grace, b.wait, b.voices, b.fund] = c4 at i4 ⊢
 generalize inB 0 60 [b.backs, b.jury] = c5 at i5 ⊢
 (refine Fun.of_body Tryz.func40 rfl (by simp) fun Γ hn => ?_); simp only [entry, ziC, ziN, maC, maN, oA, Tryz.ntmps40]
 simp only [zbr]
 repeat' (first
  | ((first | refine zag ?_ | refine zak ?_ | refine zah ?_ | refine zai ?_ | refine zaA ?_ | fail); simp)
  | ((first | refine zau ?_ | refine zar ?_ | fail); simp only [zao])
  | (refine ⟨fun hc => ?_, fun hc => ?_⟩ <;> (try (exfalso; omega)))
  | (refine CallP.fE (i1) (by first | rfl | fail) (by first | (simp; done) | (simp; rfl) | fail) ?_; (try simp))
  | (refine CallP.fE (i2) (by first | rfl | fail) (by first | (simp; done) | (simp; rfl) | fail) ?_; (try simp))
  | (refine CallP.fE (i3) (by first | rfl | fail) (by first | (simp; done) | (simp; rfl) | fail) ?_; (try simp))
  | (refine CallP.fE (i4) (by first | rfl | fail) (by first | (simp; done) | (simp; rfl) | fail) ?_; (try simp))
  | (refine CallP.fE (i5) (by first | rfl | fail) (by first | (simp; done) | (simp; rfl) | fail) ?_; (try simp))
  | fail)
 all_goals try ((refine EndOK.val (.inr rfl) ?_; simp [zaI, zaf, zaw, Tryz.results40]); clear i1 i2 i3 i4 i5 hr e1 e2 e3 e4 e5; grind)
 all_goals
  refine zbS (α := { i : Nat // i ≤ b.lets.length ∧ zjS [] b.lets = zjS (b.lets.take i) (b.lets.drop i) }) [1, 62, 63] (fun i => [(64, .u (.int .i64 i.1))]) (fun i => b.lets.length - i.1) ⟨0, by omega, by simp⟩ ?_ ?_
  ·exact (Wk.cut rfl (by simp [hn, St.lp]) (by simp [wkO, St.lp, zaa, getK, Ob.under, D.under, zad, zae]) (by simp [wkU, St.lp, zal, zaa, getK, D.under]) (by simp [wkE, St.lp, zal, zaa, getK] <;> (try (intros; simp_all; done)) <;> (try (intros; omega)) <;> (try grind)))
  rintro ⟨i, hi, hb⟩
  simp [St.lp, St.only, zal, zaa, getK]
  rcases hx : b.lets[i]? with _ | l
  ·have hge : b.lets.length ≤ i := by simpa using hx
   have hb' : zjS [] b.lets = true := by rw [hb, List.drop_of_length_le hge]; rfl
   generalize zbx 12 b.due = x1 at e1 ⊢
   generalize zbx 12 b.fine = x2 at e2 ⊢
   generalize zbx 12 b.pay = x3 at e3 ⊢
   generalize zbx 12 b.cover = x4 at e4 ⊢
   generalize zbx 12 b.hold = x5 at e5 ⊢
   repeat' (first
  | ((first | refine zag ?_ | refine zak ?_ | fail); simp [hx])
  | (refine ⟨by omega, ?_⟩)
  | (refine zah ?_; simp [hx])
  | (refine zau ?_; simp only [zao])
  | (refine za9 ?_; simp [zao])
  | (refine ⟨fun hc => ?_, fun hc => ?_⟩ <;> (try (exfalso; omega)))
  | (intro hc <;> (try (exfalso; omega)))
  | (refine CallP.fE (e1) (by first | rfl | fail) (by first | simp [hx] <;> rfl | fail) ?_; (try simp [hx]))
  | (refine CallP.fE (e2) (by first | rfl | fail) (by first | simp [hx] <;> rfl | fail) ?_; (try simp [hx]))
  | (refine CallP.fE (e3) (by first | rfl | fail) (by first | simp [hx] <;> rfl | fail) ?_; (try simp [hx]))
  | (refine CallP.fE (e4) (by first | rfl | fail) (by first | simp [hx] <;> rfl | fail) ?_; (try simp [hx]))
  | (refine CallP.fE (e5) (by first | rfl | fail) (by first | simp [hx] <;> rfl | fail) ?_; (try simp [hx]))
  | fail)
   all_goals
    (refine EndOK.val (.inr rfl) ?_; simp [zaI, zaf, zaw, Tryz.results40])
   all_goals
    clear i1 i2 i3 i4 i5 hr e1 e2 e3 e4 e5
    grind
  ·have hlt : i < b.lets.length := (lGE.1 hx).1
   have hnx := zo5 hx
   have e6 := zgI l.name
   have e7 := hr l.body
   have e8 := zeu (b.lets.take i) 100 [U.row (zgr l) 0] _ (fun x _ => zf3 x l) (by simp) (fun _ => rfl) (fun _ => rfl)
   simp only [zeO, zgr, List.map_cons, List.map_nil] at e8
   generalize zep l.name = y1 at e6 hnx
   generalize zbx 12 l.body = y2 at e7 hnx
   generalize ((b.lets.take i).any fun x => decide (x.name = l.name)) = y3 at e8 hnx
   repeat' (first
  | ((first | refine zag ?_ | refine zak ?_ | fail); simp [hx])
  | (refine ⟨by omega, ?_⟩)
  | ((first | refine zah ?_ | refine zai ?_ | refine zat ?_ | fail); simp [hx])
  | ((first | refine zau ?_ | refine zar ?_ | fail); simp only [zao])
  | (refine ⟨?_, by omega⟩)
  | (refine ⟨fun hc => ?_, fun hc => ?_⟩ <;> (try (exfalso; omega)))
  | (intro hc <;> (try (exfalso; omega)))
  | (refine CallP.fE (e6) (by first | rfl | fail) (by first | simp [hx] <;> rfl | fail) ?_; (try simp [hx]))
  | (refine CallP.fE (e7) (by first | rfl | fail) (by first | simp [hx] <;> rfl | fail) ?_; (try simp [hx]))
  | (refine CallP.fE (e8) (by first | rfl | fail) (by first | simp [hx] <;> rfl | fail) ?_; (try simp [hx]))
  | fail)
   all_goals first
    | (refine LoopW.next ⟨i + 1, by omega, by simp_all⟩ (by simp; omega) ?_; exact (Wk.cut rfl (by simp [hn, St.lp]) (by simp [wkO, St.lp, zaa, getK, Ob.under, D.under, zad, zae]) (by simp [wkU, St.lp, zal, zaa, getK, D.under]) (by simp [wkE, St.lp, zal, zaa, getK] <;> (try (intros; simp_all; done)) <;> (try (intros; omega)) <;> (try grind))))
    | ((refine EndOK.val (.inr rfl) ?_; simp [zaI, zaf, zaw, Tryz.results40]); clear i1 i2 i3 i4 i5 hr e1 e2 e3 e4 e5 e6 e7 e8; grind)
end Go.Proofs.YtepiegcjnaohjaaGreatDoor
namespace Go.Proofs.YtepiegcjnaohjaaGreatDoor.Df
open Go Go.VL
end Go.Proofs.YtepiegcjnaohjaaGreatDoor.Df
namespace Go.Proofs.YtepiegcjnaohjaaGreatDoor.Df
open Go Go.VL
end Go.Proofs.YtepiegcjnaohjaaGreatDoor.Df
namespace Go.Proofs.YtepiegcjnaohjaaGreatDoor
open Go Go.VL
open Df in
structure Lw where
 mark : Int
 base : Int
 text : List UInt8
def zdY (l : List Lw) : U := .sl (l.map fun x => [.int .i64 x.mark, .int .i64 x.base, .str x.text])
def iN (l : List Nat) : List Int := l.map (fun n : Nat => (n : Int))
/-- What takes effect, what is void, what is in force at the end; one after the other. -/
def effS (s : List Nat × List Nat × Int × Nat) (x : Lw) : List Nat × List Nat × Int × Nat := if x.base = s.2.2.1 then (s.1 ++ [s.2.2.2], s.2.1, x.mark, s.2.2.2 + 1) else (s.1, s.2.1 ++ [s.2.2.2], s.2.2.1, s.2.2.2 + 1)
def eff (f : Int) (l : List Lw) : List Nat × List Nat × Int × Nat := l.foldl effS ([], [], f, 0)
theorem ziI {α : Type} {p : List α → Prop} (h0 : p []) (hs : ∀ l x, p l → p (l ++ [x])) (l : List α) : p l := by
 have : ∀ r : List α, p r.reverse := fun r => by
  induction r with
  | nil => exact h0
  | cons a r ih => rw [List.reverse_cons]; exact hs _ _ ih
 rw [← List.reverse_reverse l]
 exact this _
theorem zi4 (f : Int) (l : List Lw) (x : Lw) : eff f (l ++ [x]) = effS (eff f l) x := by simp [eff]
theorem zpw {l : List Lw} {i : Nat} {x : Lw} (h : l[i]? = some x) (f : Int) : eff f (l.take (i + 1)) = effS (eff f (l.take i)) x := by
 obtain ⟨hi, rfl⟩ := lGE.1 h
 rw [List.take_succ_eq_append_getElem hi, zi4]
theorem zee (f : Int) : ∀ l : List Lw, (eff f l).2.2.2 = l.length ∧ (eff f l).1.length + (eff f l).2.1.length = l.length ∧ (∀ n ∈ (eff f l).1, n < l.length) ∧ (∀ n ∈ (eff f l).2.1, n < l.length) ∧ (eff f l).2.2.1 = (match (eff f l).1.getLast? with | none => f | some n => ((l[n]?).map (·.mark)).getD 0) := by
 refine ziI (by simp [eff]) ?_
 ·intro l x ih
  obtain ⟨h1, h2, h3, h4, h5⟩ := ih
  rw [zi4, effS]
  split
  ·refine ⟨by simp [h1], by simp; omega, fun n hn => ?_, fun n hn => ?_, ?_⟩
   ·rcases List.mem_append.1 hn with h | h
    ·have := h3 n h; simp; omega
    ·simp at h; subst h; simp [h1]
   ·have := h4 n hn; simp; omega
   ·simp [h1]
  ·refine ⟨by simp [h1], by simp; omega, fun n hn => ?_, fun n hn => ?_, ?_⟩
   ·have := h3 n hn; simp; omega
   ·rcases List.mem_append.1 hn with h | h
    ·have := h4 n h; simp; omega
    ·simp at h; subst h; simp [h1]
   ·show (eff f l).2.2.1 = _
    rw [h5]
    cases hg : (eff f l).1.getLast? with
    | none => rfl
    | some n =>
     have := h3 n (List.mem_of_getLast? hg)
     simp only
     rw [List.getElem?_append_left this]
def zck (f : Int) (l : List Lw) : Int := (eff f l).2.2.1
def zhP (f : Int) (l : List Lw) : List Int := (eff f l).1.map fun n => ((l[n]?).map (·.mark)).getD 0
def zc2 (f : Int) (l : List Lw) : List Int := f :: zhP f l
def zgx (first : List UInt8) (f : Int) (l : List Lw) : List UInt8 := match (eff f l).1.getLast? with | none => first | some n => ((l[n]?).map (·.text)).getD []
def zgv (f : Int) (l : List Lw) : List Int := iN (eff f l).2.1
theorem zn0 (l : List Nat) (n : Nat) : iN (l ++ [n]) = iN l ++ [(n : Int)] := by simp [iN]
theorem zea (l : List Nat) : (iN l).length = l.length := by simp [iN]
theorem zhk (l : List Int) (n : Int) : zbn l ++ [[.u (.int .i64 n)]] = zbn (l ++ [n]) := by simp [zbn]
theorem zpk (S : D → Option U) (l : List Int) : (zbn l).map (fun r => r.map (frzS S)) = zbn l := by simp [zbn, frzS]
end Go.Proofs.YtepiegcjnaohjaaGreatDoor
namespace Go.Proofs.YtepiegcjnaohjaaGreatDoor.Df
open Go Go.VL
theorem zju (l : List Int) : (zff l).Pairwise (· ≤ ·) := by
 have := List.pairwise_mergeSort (le := fun (x y : Int) => decide (x ≤ y)) (fun a b c h1 h2 => by simp at *; omega) (fun a b => by simp; omega) l
 simpa [zff] using this
theorem zlO (l : List Int) : (zff l).Perm l := List.mergeSort_perm l _
theorem zkY (zs : List Int) (x : Int) : x ∈ Lib.compact zs ↔ x ∈ zs := by
 unfold Lib.compact Lib.compactUpTo
 simp only [List.mem_map, List.mem_filter, List.mem_range]
 constructor
 ·rintro ⟨j, ⟨hj, _⟩, rfl⟩
  simp [hj]
 ·intro h
  obtain ⟨k, hk⟩ := List.getElem?_of_mem h
  have hkl := (lGE.1 hk).1
  obtain ⟨j, h1, h2, h3, h4⟩ := zlw (P := fun j => zs[j - 1]? = some x) (k := k + 1) (by omega) (by simpa using hk)
  have hjl := (lGE.1 h3).1
  refine ⟨j - 1, ⟨hjl, ?_⟩, ?_⟩
  ·simp only [Lib.keeps, decide_eq_true_eq]
   by_cases h0 : j - 1 = 0
   ·exact .inl h0
   ·right
    have h5 := h4 (j - 1) (by omega) (by omega)
    intro e
    apply h5
    have e2 : zs[j - 1 - 1]? = zs[j - 1]? := by
     rw [List.getElem?_eq_getElem (by omega), List.getElem?_eq_getElem hjl]
     congr 1
     simpa [hjl, show j - 1 - 1 < zs.length by omega] using e.symm
    rw [e2, h3]
  ·have := (lGE.1 h3).2
   simp [hjl, this]
theorem zmy {zs : List Int} (hs : zs.Pairwise (· ≤ ·)) : (Lib.compact zs).Pairwise (· < ·) := by
 unfold Lib.compact Lib.compactUpTo
 rw [List.pairwise_map]
 refine List.Pairwise.imp_of_mem (fun {i j} hi hj hij => ?_) (List.Pairwise.filter _ List.pairwise_lt_range)
 have hj1 := List.mem_range.1 (List.mem_filter.1 hj).1
 have hj2 := (List.mem_filter.1 hj).2
 simp only [Lib.keeps, decide_eq_true_eq] at hj2
 have hil : i < zs.length := by omega
 have hne : zs[j] ≠ zs[j - 1] := by
  rcases hj2 with h | h
  ·omega
  ·simpa [hj1, show j - 1 < zs.length by omega] using h
 have h1 : zs[j - 1] ≤ zs[j] := List.pairwise_iff_getElem.1 hs (j - 1) j (by omega) hj1 (by omega)
 have h2 : zs[i] ≤ zs[j - 1] := by
  rcases Nat.lt_or_ge i (j - 1) with h | h
  ·exact List.pairwise_iff_getElem.1 hs i (j - 1) (by omega) (by omega) h
  ·obtain rfl : i = j - 1 := by omega
   exact Int.le_refl _
 simp [hj1, hil]
 omega
def zgy (nx : List Int) : List Int := Lib.compact (zff nx)
theorem zd5 (nx : List Int) (x : Int) : x ∈ zgy nx ↔ x ∈ nx := by rw [zgy, zkY]; exact (zlO nx).mem_iff
theorem zjP {n : Nat} (nx : List Int) (h : ∀ x ∈ nx, 0 ≤ x ∧ x < (n : Int)) : (zgy nx).length ≤ n := by
 have h1 : ((zgy nx).map Int.toNat).Nodup := by
  rw [List.Nodup, List.pairwise_map]
  refine List.Pairwise.imp_of_mem (fun {a b} ha hb hab e => ?_) (zmy (zju nx))
  have := h a ((zd5 nx a).1 ha)
  have := h b ((zd5 nx b).1 hb)
  omega
 have h2 := zlk (n := n) h1 fun x hx => by
  obtain ⟨y, hy, rfl⟩ := List.mem_map.1 hx
  have := h y ((zd5 nx y).1 hy)
  omega
 simpa using h2
theorem PM.take {n : Nat} {l : List Con} {bg r all rest t st L} {v : Nat} {es : List Nat} (hl : OkC n l) (hv : (v : Int) ∈ all) (hm : ∀ i ∈ es, i ∈ zcz l v) (h : PM n l bg r all rest v es t st L) : ∀ q, q ≤ es.length → ∃ L', PM n l bg r all rest v (es.drop q) (t + q) ((es.take q).foldl (zlX l) st) L'
 | 0, _ => ⟨L, by simpa using h⟩
 | q + 1, hq => by
  obtain ⟨L1, h1⟩ := PM.take hl hv hm h q (by omega)
  have hx : es[q]? = some es[q] := List.getElem?_eq_getElem (by omega)
  obtain ⟨c, h2, h3⟩ := zfG.1 (hm es[q] (List.getElem_mem _))
  rw [List.drop_eq_getElem_cons (by omega)] at h1
  obtain ⟨L2, h4⟩ := h1.step hl h2 hv h3
  refine ⟨L2, ?_⟩
  rw [zdA hx, List.foldl_append]
  exact h4
theorem PI.take {n : Nat} {l : List Con} {bg r todo t g L} (hl : OkC n l) (h : PI n l bg r todo t g L) : ∀ p, p ≤ todo.length → ∃ L' u, PM n l bg r todo (todo.drop p) u [] (t + p * l.length) ((todo.take p).foldl (zhZ l) (g, [])) L'
 | 0, _ => ⟨L, 0, by simpa using h.start⟩
 | p + 1, hp => by
  obtain ⟨L1, u, h1⟩ := PI.take hl h p (by omega)
  have hx : todo[p]? = some todo[p] := List.getElem?_eq_getElem (by omega)
  rw [List.drop_eq_getElem_cons (by omega)] at h1
  obtain ⟨L2, h2⟩ := h1.visit hl (List.getElem_mem _)
  refine ⟨L2, todo[p].toNat, ?_⟩
  rw [zdA hx, List.foldl_append, Nat.succ_mul, ← nAA]
  exact h2
def zp9 (l : List Con) (m : Nat) (g : GS) : List (Nat × Ob) := [(5, .box [.u (consU l), .u (.sl ((List.range m).map fun v => [ints (zgz (zcz l v))])), .vec 1 m, .vec 3 m, .vec 4 m]), (1, .vec 3 1 (zbn (lst m g.val))), (3, .vec 3 1 (zbn (lst m (zhI (-1) g)))), (4, .vec 4 1 (zdh (bst m g.kn)))]
end Go.Proofs.YtepiegcjnaohjaaGreatDoor.Df
namespace Go.Proofs.YtepiegcjnaohjaaGreatDoor
open Go Go.VL
theorem zlV {lets : List Let} {e : Exp} (h : zgF lets e = true) : lets.length ≤ 20 ∧ zbx 12 e = true ∧ ∀ l ∈ lets, zbx 12 l.body = true := by
 simp only [zgF, Bool.and_eq_true, decide_eq_true_eq, Bool.not_eq_true', List.any_eq_false, Bool.not_eq_true] at h
 exact ⟨h.1.1, h.1.2, fun l hl => by have := h.2 l hl; simpa using this⟩
abbrev Tab := List (Int × Int × Bool)
abbrev TM := Tab → Except Int Int × Tab
def TM.bind (f : TM) (g : Int → TM) : TM := fun t => match f t with | (.ok v, t') => g v t' | (.error e, t') => (.error e, t')
def TM.ret (x : Except Int Int) : TM := fun t => (x, t)
theorem TM.bind_ok {f : TM} {g : Int → TM} {t t' : Tab} {v : Int} (h : f t = (.ok v, t')) : f.bind g t = g v t' := by unfold TM.bind; rw [h]
def inC (v : Int) : Prop := -1099511627776 ≤ v ∧ v ≤ 1099511627776
/-- What is known of a table: as many entries as lets, and small values. -/
structure TabOK (L : Nat) (t : Tab) : Prop where
 len : t.length = L
 small : ∀ (i : Nat) (v e : Int) (d : Bool), t[i]? = some (v, e, d) → inC v
def TMok (L : Nat) (f : TM) : Prop := ∀ t, TabOK L t → TabOK L (f t).2 ∧ (∀ v, (f t).1 = .ok v → inC v) ∧ (∀ e, (f t).1 = .error e → e ≠ 0)
theorem TMok.bind {L f g} (hf : TMok L f) (hg : ∀ a, inC a → TMok L (g a)) : TMok L (TM.bind f g) := fun t ht => by
 obtain ⟨h1, h2, h3⟩ := hf t ht
 unfold TM.bind
 rcases hft : f t with ⟨r | v, t'⟩
 ·rw [hft] at h1 h3
  refine ⟨h1, ?_, ?_⟩
  ·intro v h; cases h
  ·intro e h; exact h3 e h
 ·rw [hft] at h1 h2
  exact hg v (h2 v rfl) t' h1
theorem TMok.ret {L} {x : Except Int Int} (h : ∀ v, x = .ok v → inC v) (he : ∀ e, x = .error e → e ≠ 0) : TMok L (TM.ret x) := fun t ht => ⟨ht, h, he⟩
theorem TMok.ok {L} {v : Int} (h : inC v) : TMok L (TM.ret (.ok v)) := .ret (fun w hw => by cases hw; exact h) (fun e he => by cases he)
end Go.Proofs.YtepiegcjnaohjaaGreatDoor
namespace Go.Proofs.YtepiegcjnaohjaaGreatDoor
open Go Go.VL
structure Tok where
 kind : Int
 text : List UInt8
 n : Int
 pos : Int
 deriving DecidableEq, Inhabited
def Tok.row (t : Tok) : List U := [.int .i64 t.kind, .str t.text, .int .i64 t.n, .int .i64 t.pos]
def zcd (c : UInt8) : Bool := decide (c.toNat = 32) || decide (c.toNat = 9) || decide (c.toNat = 10)
def zdf (c : UInt8) : Bool := zdk c || zbv c
def zbq (s : List UInt8) : Int := s.foldl (fun n c => 10 * n + ((c.toNat : Int) - 48)) 0
def zf5 (s : List UInt8) : Option Int :=
 if s = [] ∨ zcJ zbv s ≠ s.length ∨ (s.head? = some 48 ∧ s ≠ [48]) ∨ 13 < s.length then none else if 1099511627776 < zbq s then none else some (zbq s)
theorem zeW (s : List UInt8) (c : UInt8) : zbq (s ++ [c]) = 10 * zbq s + ((c.toNat : Int) - 48) := by simp [zbq]
theorem zfQ : ∀ (n : Nat) (s : List UInt8), s.length = n → (∀ c ∈ s, zbv c = true) → 0 ≤ zbq s ∧ zbq s < 10 ^ n
 | 0, s, h, _ => by have := List.eq_nil_of_length_eq_zero h; subst this; simp [zbq]
 | n + 1, s, h, hd => by
  have hne : s ≠ [] := fun e => by rw [e] at h; simp at h
  obtain ⟨t, c, rfl⟩ : ∃ t c, s = t ++ [c] := ⟨s.dropLast, s.getLast hne, (List.dropLast_concat_getLast hne).symm⟩
  have h1 := zfQ n t (by simpa using h) (fun x hx => hd x (by simp [hx]))
  have h2 := hd c (by simp)
  simp only [zbv, Bool.and_eq_true, decide_eq_true_eq] at h2
  rw [zeW]
  have : (10 : Int) ^ (n + 1) = 10 * 10 ^ n := by rw [Int.pow_succ]; omega
  omega
end Go.Proofs.YtepiegcjnaohjaaGreatDoor
namespace Go.Proofs.YtepiegcjnaohjaaGreatDoor
open Go Go.VL
def signsL : List (List UInt8) := [[61, 61], [59], [44], [61], [60], [43], [45], [42], [47], [40], [41]]
def zhK (s : List UInt8) : Except Int Tok := match s with
 | [] => .error 0
 | c :: r => if zdk c = true then
   if zjj ((c :: r).take (zcJ zdf (c :: r))) = true then .ok ⟨1, (c :: r).take (zcJ zdf (c :: r)), 0, 0⟩ else .error 13
  else if zbv c = true then
   match zf5 ((c :: r).take (zcJ zbv (c :: r))) with | some n => .ok ⟨2, (c :: r).take (zcJ zbv (c :: r)), n, 0⟩ | none => .error 3
  else match signsL.find? fun x => x.isPrefixOf (c :: r) with | some x => .ok ⟨3, x, 0, 0⟩ | none => .error 11
def nextD (s : List UInt8) : D := match zhK s with | .ok t => .tup [.u (.agg [.int .i64 t.kind, .str t.text, .int .i64 t.n, .int .i64 t.pos]), .u (.int .i64 0)] | .error e => .tup [.u (.agg [.int .i64 0, .str [], .int .i64 0, .int .i64 0]), .u (.int .i64 e)]
end Go.Proofs.YtepiegcjnaohjaaGreatDoor
namespace Go.Proofs.YtepiegcjnaohjaaGreatDoor
open Go Go.VL
def zcy (f : Int) : List Lw → List Lw
 | [] => []
 | x :: l => if x.base = f then x :: zcy x.mark l else zcy f l
def zdM (f : Int) (l : List Lw) : Int := (zcy f l).foldl (fun _ x => x.mark) f
theorem zrv (f : Int) : ∀ l : List Lw, l.foldl (fun _ x => x.mark) f = (match l.getLast? with | none => f | some x => x.mark) := fun l => by
 refine ziI (p := fun l => l.foldl (fun _ x => x.mark) f = (match l.getLast? with | none => f | some x => x.mark)) rfl ?_ l
 intro l x _
 simp
theorem zfK (f : Int) (a b : List Lw) : zcy f (a ++ b) = zcy f a ++ zcy (zdM f a) b := by
 induction a generalizing f with
 | nil => simp [zcy, zdM]
 | cons x a ih =>
  rw [List.cons_append, zcy, zcy]
  by_cases h : x.base = f
  ·rw [if_pos h, if_pos h, ih, List.cons_append, zdM, zdM, zcy, if_pos h, List.foldl_cons]
  ·rw [if_neg h, if_neg h, ih, zdM, zdM, zcy, if_neg h]
theorem znO (f : Int) (a b : List Lw) : zdM f (a ++ b) = zdM (zdM f a) b := by
 rw [zdM, zfK, List.foldl_append]; rfl
theorem zmr (f : Int) (l : List Lw) (x : Lw) : zcy f (l ++ [x]) = if x.base = zdM f l then zcy f l ++ [x] else zcy f l := by
 rw [zfK, zcy]
 split
 ·rw [zcy]
 ·rw [zcy, List.append_nil]
theorem zgO (f : Int) : ∀ l : List Lw, (eff f l).1.map (fun n => l[n]?) = (zcy f l).map some ∧ (eff f l).2.2.1 = zdM f l := by
 refine ziI (by simp [eff, zcy, zdM]) ?_
 intro l x ⟨h1, h2⟩
 obtain ⟨f1, _, f3, _, _⟩ := zee f l
 have hc : (eff f l).1.map (fun n => (l ++ [x])[n]?) = (zcy f l).map some := by
  rw [← h1]
  exact List.map_congr_left fun n hn => by rw [List.getElem?_append_left (f3 n hn)]
 rw [zi4, effS, zmr, znO, h2]
 by_cases h : x.base = zdM f l
 ·rw [if_pos h, if_pos h]
  refine ⟨?_, by simp [zdM, zcy, h]⟩
  rw [List.map_append, hc, List.map_append]
  simp [f1]
 ·rw [if_neg h, if_neg h]
  refine ⟨hc, ?_⟩
  have e : zdM (zdM f l) [x] = zdM f l := by rw [zdM, zcy, if_neg h]; rfl
  rw [e]
theorem zj4 (f : Int) (l : List Lw) : zck f l = zdM f l := (zgO f l).2
theorem zgM (f : Int) (l : List Lw) : zhP f l = (zcy f l).map (·.mark) := by
 have h := congrArg (List.map fun o : Option Lw => (o.map (·.mark)).getD 0) (zgO f l).1
 simp only [List.map_map] at h
 unfold zhP
 exact h
theorem ziH (first : List UInt8) (f : Int) (l : List Lw) : zgx first f l = (match (zcy f l).getLast? with | none => first | some x => x.text) := by
 have h := congrArg List.getLast? (zgO f l).1
 rw [List.getLast?_map, List.getLast?_map] at h
 unfold zgx
 cases hg : (eff f l).1.getLast? with
 | none =>
  rw [hg] at h
  cases hk : (zcy f l).getLast? with
  | none => rfl
  | some x => rw [hk] at h; cases h
 | some n =>
  rw [hg] at h
  cases hk : (zcy f l).getLast? with
  | none => rw [hk] at h; cases h
  | some x => rw [hk] at h; simp only [Option.map_some, Option.some.injEq] at h; simp [h]
theorem zpo (f : Int) (l : List Lw) : (eff f l).1.length = (zcy f l).length := by
 have h := congrArg List.length (zgO f l).1
 simpa using h
theorem zix (f : Int) (l : List Lw) : (zcy f l).length + (zgv f l).length = l.length := by
 have := (zee f l).2.1
 rw [zgv, zea, ← zpo]
 exact this
theorem zkg (f : Int) (l : List Lw) : (zc2 f l).length = (zcy f l).length + 1 := by rw [zc2, zgM]; simp
theorem zgi (f : Int) (l : List Lw) : (zc2 f l).length + (zgv f l).length = l.length + 1 := by have := zix f l; rw [zkg]; omega
theorem zg1 (f : Int) (a b : List Lw) : zc2 f (a ++ b) = zc2 f a ++ zhP (zck f a) b := by
 rw [zc2, zc2, zgM, zgM, zgM, zj4, zfK]; simp
theorem zlT (s : List UInt8) (f : Int) (a b : List Lw) : zgx s f (a ++ b) = zgx (zgx s f a) (zck f a) b := by
 rw [ziH, ziH s, ziH (match (zcy f a).getLast? with | none => s | some x => x.text), zj4, zfK]
 cases hg : (zcy (zdM f a) b).getLast? with
 | none =>
  have : zcy (zdM f a) b = [] := List.getLast?_eq_none_iff.1 hg
  rw [this, List.append_nil]
 | some x => rw [List.getLast?_append, hg]; rfl
theorem zlS {m : Int} {b : List Lw} (h : ∀ x ∈ b, x.base ≠ m) : (zgv m b).length = b.length := by
 have e : zcy m b = [] := by
  induction b with
  | nil => rfl
  | cons x b ih => rw [zcy, if_neg (h x (by simp)), ih fun y hy => h y (by simp [hy])]
 have := zix m b
 rw [e] at this
 simpa using this
end Go.Proofs.YtepiegcjnaohjaaGreatDoor
namespace Go.Proofs.YtepiegcjnaohjaaGreatDoor
open Go Go.VL Go.ChangeShapes Go.WideShapes Go.ChangeAt Go.RowKit
theorem Tryz.own : ownKnob Tryz.prog.godebug = none := by kernel_rfl
theorem Tryz.zq8 : laidOutB Tryz.prog = true := by kernel_rfl
theorem Tryz.zvB : zh3 Tryz.prog = true := by kernel_rfl
theorem zrN {u : U} (h : ArgU Tryz.prog 3 u) : ∃ n, u = .int .i64 n := by
 obtain ⟨n, h1, _⟩ := (h.one (by simp) (by simp)).of_int io3
 exact ⟨n, by simpa using h1⟩
theorem zrB {u : U} (h : ArgU Tryz.prog 9 u) : ∃ n, u = .str n := by
 obtain ⟨n, h1, _⟩ := (h.one (by simp) (by simp)).of_str (by simp)
 exact ⟨n, by simpa using h1⟩
end Go.Proofs.YtepiegcjnaohjaaGreatDoor
namespace Go.Proofs.YtepiegcjnaohjaaGreatDoor
open Go Go.VL
theorem zrK {r : List U} (h : HasRow Tryz.prog 39 r) : ∃ c : Lw, r = [.int .i64 c.mark, .int .i64 c.base, .str c.text] ∧ True := by
 obtain ⟨rs, hr, h⟩ := h.of_struct ztW
 match rs, h with
 | [a1, a2, a3], h =>
  obtain ⟨h1, h2, h3, _⟩ := h
  obtain ⟨x1, rfl, _⟩ := h1.of_int io3
  obtain ⟨x2, rfl, _⟩ := h2.of_int io3
  obtain ⟨x3, rfl, _⟩ := h3.of_str (by simp)
  exact ⟨⟨x1, x2, x3⟩, hr, trivial⟩
theorem znM {u : U} (h : ArgU Tryz.prog 22 u) : ∃ l : List Lw, u = zdY l := by
 obtain ⟨rows, h1, _, h2⟩ := (h.one (by simp) (by simp)).of_slice zug
 obtain ⟨l, rfl, _⟩ := rows_list (fun x : Lw => [.int .i64 x.mark, .int .i64 x.base, .str x.text]) (fun _ => True) (rows := rows) fun r hr => zrK (h2 r hr)
 exact ⟨l, by simpa [zdY] using h1⟩
end Go.Proofs.YtepiegcjnaohjaaGreatDoor
namespace Go.Proofs.YtepiegcjnaohjaaGreatDoor.Df
open Go Go.VL
attribute [local simp] zc8 zb5 evPure opd uOf zaG St.put St.at getK binD binI binS binB nilD aggD zgN zhG lookD lookR zcF Go.VL.nextD zcH zhM zhH zfY zb4 mkV zbl zbf zbe zbd zc5 za8 zbt zbG mapEff zdl zfy Key.kk shiftI arith unD convD zdL loadD cellsAt fieldAddrD fieldD indexAddrD indexD sliceD cutD lenD minmaxD nilCheckD buildD fillD zbY zdg ze1 setAll zcV zeA zcw zht zct St.add zaM zbP rowsOf zdG zcK zan zac zaa zbi zcN zaK entry zbE zbI valD zb8 zcg zgC zds zdt zb1 zbK zaz zaX zbz delAll effD St.effS zc6 zbg zaZ zc7 zbh za1 zch za0 zaT zci zcW zbL zcc zbs zca zcb zaR mkD zbk zbC zbQ zaz zcv D.ids Op.operands Call.operands zbu makeIfD makeFuncD typeAssertD zhF zdy zdz zhE zcG IntKind.bits zb9 zaS List.take_of_length_le List.range_succ
attribute [local irreducible] V G H HD HD2 zao Eff CallP CallV EndOK Fun Ret FinOK LoopI LoopW EndW
theorem rsame_fun (a b : List Int) (hl : a.length ≤ 1000000) : Fun Tryz.prog 16 [.u (ints a), .u (ints b)] (· = .u (.bool (decide (a = b)))) := by
 simp only [ints]
 by_cases hab : a.length = b.length
 ·(refine Fun.of_body Tryz.func16 rfl (by simp) fun Γ hn => ?_); simp only [entry, ziC, ziN, maC, maN, oA, Tryz.ntmps16]
  repeat' (first
  | ((first | refine zag ?_ | refine zak ?_ | refine zah ?_ | refine zai ?_ | refine zaA ?_ | fail); simp [hab])
  | (refine zar ?_; simp only [zao])
  | fail)
  refine zbS (α := { i : Nat // i ≤ a.length ∧ a.take i = b.take i }) [0, 1] (fun i => [(5, .u (.int .i64 i.1))]) (fun i => a.length - i.1) ⟨0, by omega, by simp⟩ ?_ ?_
  ·exact (Wk.cut rfl (by simp [hn, St.lp]) (by simp [wkO, St.lp, zaa, getK, Ob.under, D.under, zad, zae]) (by simp [wkU, St.lp, zal, zaa, getK, D.under]) (by simp [wkE, St.lp, zal, zaa, getK] <;> (try (intros; simp_all; done)) <;> (try (intros; omega)) <;> (try grind)))
  rintro ⟨i, hi, hb⟩
  simp [St.lp, St.only, zal, zaa, getK]
  rcases hx : a[i]? with _ | x
  ·have hge : a.length ≤ i := by simpa using hx
   obtain rfl : i = a.length := by omega
   have he : a = b := by rw [List.take_length, hab, List.take_length] at hb; exact hb
   have hge2 : b.length ≤ a.length := by omega
   repeat' (first
  | ((first | refine zag ?_ | refine zak ?_ | refine zah ?_ | refine zai ?_ | fail); simp [hx, hab])
  | (refine zau ?_; simp only [zao])
  | (refine za9 ?_; simp [zao])
  | fail)
   (refine EndOK.val (.inr rfl) ?_; simp [zaI, zaf, zaw, Tryz.results16])
   simp [he]
  ·have hlt : i < a.length := (lGE.1 hx).1
   have hlt2 : i < b.length := by omega
   obtain ⟨y, hy⟩ : ∃ y, b[i]? = some y := ⟨_, List.getElem?_eq_getElem hlt2⟩
   by_cases hxy : x = y
   ·subst hxy
    repeat' (first
  | ((first | refine zag ?_ | refine zbU ?_ | refine zak ?_ | fail); simp [hx, hy, hab])
  | (refine ⟨by omega, ?_⟩)
  | ((first | refine zah ?_ | refine zai ?_ | fail); simp [hx, hy, hab])
  | (refine zcI ?_)
  | (refine hk _ ?_; clear hk k; simp only [zao])
  | (refine zbT rfl (by kernel_rfl) (by kernel_rfl) fun k hk => ?_; simp [hx, hy, hab])
  | (refine zat ?_; simp [hx, hy, hab])
  | (refine zar ?_; simp only [zao])
  | (refine ⟨?_, by omega⟩)
  | (intro hc <;> (try (exfalso; omega)))
  | fail)
    refine LoopW.next ⟨i + 1, by omega, by rw [zdA hx, zdA hy, hb]⟩ (by simp; omega) ?_
    exact (Wk.cut rfl (by simp [hn, St.lp]) (by simp [wkO, St.lp, zaa, getK, Ob.under, D.under, zad, zae]) (by simp [wkU, St.lp, zal, zaa, getK, D.under]) (by simp [wkE, St.lp, zal, zaa, getK] <;> (try (intros; simp_all; done)) <;> (try (intros; omega)) <;> (try grind)))
   ·have hne : a ≠ b := fun h => by subst h; rw [hx] at hy; cases hy; exact hxy rfl
    repeat' (first
  | ((first | refine zag ?_ | refine zbU ?_ | refine zak ?_ | refine zah ?_ | refine zai ?_ | fail); simp [hx, hy, hab, hxy])
  | (refine zcI ?_)
  | (refine hk _ ?_; clear hk k; simp only [zao])
  | (refine zbT rfl (by kernel_rfl) (by kernel_rfl) fun k hk => ?_; simp [hx, hy, hab, hxy])
  | ((first | refine zau ?_ | refine zar ?_ | fail); simp only [zao])
  | (refine ⟨?_, by omega⟩)
  | (intro hc <;> (try (exfalso; omega)))
  | fail)
    (refine EndOK.val (.inr rfl) ?_; simp [zaI, zaf, zaw, Tryz.results16])
    simp [hne]
 ·have hne : a ≠ b := fun h => hab (by rw [h])
  (refine Fun.of_body Tryz.func16 rfl (by simp) fun Γ hn => ?_); simp only [entry, ziC, ziN, maC, maN, oA, Tryz.ntmps16]
  repeat' (first
  | ((first | refine zag ?_ | refine zak ?_ | refine zah ?_ | refine zai ?_ | fail); simp [hab])
  | (refine zau ?_; simp only [zao])
  | (refine ⟨?_, by omega⟩)
  | (intro hc <;> (try (exfalso; omega)))
  | fail)
  (refine EndOK.val (.inr rfl) ?_; simp [zaI, zaf, zaw, Tryz.results16])
  simp [hne]
end Go.Proofs.YtepiegcjnaohjaaGreatDoor.Df
namespace Go.Proofs.YtepiegcjnaohjaaGreatDoor
open Go Go.VL
open Df in
attribute [local simp] zc8 zb5 evPure opd uOf zaG St.put St.at getK binD binI binS binB nilD aggD zgN zhG lookD lookR zcF Go.VL.nextD zcH zhM zhH zfY zb4 mkV zbl zbf zbe zbd zc5 za8 zbt zbG mapEff zdl zfy Key.kk shiftI arith unD convD zdL loadD cellsAt fieldAddrD fieldD indexAddrD indexD sliceD cutD lenD minmaxD nilCheckD buildD fillD zbY zdg ze1 setAll zcV zeA zcw zht zct St.add zaM zbP rowsOf zdG zcK zan zac zaa zbi zcN zaK entry zbE zbI valD zb8 zcg zgC zds zdt zb1 zbK zaz zaX zbz delAll effD St.effS zc6 zbg zaZ zc7 zbh za1 zch za0 zaT zci zcW zbL zcc zbs zca zcb zaR mkD zbk zbC zbQ zaz zcv D.ids Op.operands Call.operands zbu makeIfD makeFuncD typeAssertD zhF zdy zdz zhE zcG IntKind.bits zb9 zaS List.take_of_length_le List.range_succ
attribute [local irreducible] V G H HD HD2 zao Eff CallP CallV EndOK Fun Ret FinOK LoopI LoopW EndW
open Df in
theorem zfq (f : Int) (l : List Lw) (hl : l.length ≤ 1000000) : Fun Tryz.prog 52 [.u (.int .i64 f), .u (zdY l)] (· = .tup [.u (ints (iN (eff f l).1)), .u (ints (iN (eff f l).2.1))]) := by
 unfold zdY
 (refine Fun.of_bodyW Tryz.func52 rfl (by simp) fun Γ hn => ?_); simp only [entry, ziC, ziN, maC, maN, oA, Tryz.ntmps52]
 repeat' (first
  | ((first | refine zag ?_ | refine zak ?_ | refine zah ?_ | refine zaA ?_ | fail); simp)
  | fail)
 refine zmJ _ (Wk.own 4 3 1 (by decide) rfl) ?_
 simp [St.own]
 refine zmJ _ (Wk.own 5 3 1 (by decide) rfl) ?_
 simp [St.own]
 refine zcn (α := { i : Nat // i ≤ l.length }) [8, 9] (fun i => [(0, .u (.int .i64 (eff f (l.take i.1)).2.2.1)), (4, .vec 0 (eff f (l.take i.1)).1.length), (5, .vec 1 (eff f (l.take i.1)).2.1.length), (10, .u (.int .i64 i.1))])
  (fun i => [(0, .vec 3 1 (zbn (iN (eff f (l.take i.1)).1))), (1, .vec 3 1 (zbn (iN (eff f (l.take i.1)).2.1)))]) 2 (fun i => l.length - i.1) ⟨0, by omega⟩ ?_ ?_
 ·exact (Wk.cut rfl (by simp [hn, St.lp]) (by simp [wkO, St.lp, zaa, getK, Ob.under, D.under, zad, zae, eff, zbn, iN]) (by simp [wkU, St.lp, zal, zaa, getK, D.under, eff, zbn, iN]) (by simp [wkE, St.lp, zal, zaa, getK, eff, zbn, iN] <;> (try (intros; simp_all; done)) <;> (try (intros; omega)) <;> (try grind)))
 rintro ⟨i, hi⟩
 simp [St.lp, St.only, zal, zaa, getK]
 rcases hx : l[i]? with _ | x
 ·have hge : l.length ≤ i := by simpa using hx
  obtain rfl : i = l.length := by omega
  simp only [List.take_length]
  repeat' (first
  | ((first | refine zag ?_ | refine zak ?_ | refine zah ?_ | fail); simp [hx])
  | (refine zau ?_; simp only [zao])
  | (refine za9 ?_; simp [zao])
  | fail)
  (refine EndW.frzN 2 ?_; simp [frzN, frz1, zaC, zaB, St.frz, St.frzS, frzS, fv, zaQ, za2, za3, frzObS, zay, zas, del, frz, za7, zpk, zdR, zaE, zea])
  refine EndW.norm (EndW.here ?_)
  (refine EndOK.val (.inr rfl) ?_; simp [zaI, zaf, zaw, Tryz.results52, zaB, zaC, zcq, zcr, frz, za7, frzS, fv, zaQ, za2, za3, frzObS, zay, zas, zbR, zb6, zb7, zbc, zdR, zaE, zea])
  simp [ints]
 ·have hlt : i < l.length := (lGE.1 hx).1
  obtain ⟨f1, f2, _, _, _⟩ := zee f (l.take i)
  have hst := zpw hx f
  have htl : (l.take i).length = i := by rw [List.length_take]; omega
  rw [htl] at f1 f2
  rw [effS, f1] at hst
  generalize eff f (l.take i) = E at *
  obtain ⟨G, V, m, k⟩ := E
  simp only at f1 f2 hst
  have hlrG : ziV 1 (zbn (iN G)) := zdI _
  have hlrV : ziV 1 (zbn (iN V)) := zdI _
  have hsG := zhk (iN G) i
  have hsV := zhk (iN V) i
  by_cases hb : x.base = m
  ·rw [if_pos hb] at hst
   have hk2 : k = i := f1
   have e1 := zn0 G i
   repeat' (first
  | ((first | refine zag ?_ | refine zhA rfl ?_ | refine zhB rfl ?_ | refine zak ?_ | fail); simp [hx, hb, zaE, zea, hlrG, hsG])
  | (refine ⟨by omega, ?_⟩)
  | ((first | refine zah ?_ | refine zai ?_ | fail); simp [hx, hb, zaE, zea, hlrG, hsG])
  | (refine zgo (hC _ (by kernel_rfl)) (hk _ ?_); clear hC hk C k; simp only [zao])
  | (refine zhx rfl (by kernel_rfl) (by kernel_rfl) (by simp [hn]) fun C k hC hk => ?_; simp [hx, hb, zaE, zea, hlrG, hsG])
  | (refine zat ?_; simp [hx, hb, zaE, zea, hlrG, hsG])
  | (refine zar ?_; simp only [zao])
  | (refine ⟨?_, by omega⟩)
  | (intro hc <;> (try (exfalso; omega)))
  | fail)
   refine LoopW.next ⟨i + 1, by omega⟩ (by simp; omega) ?_
   exact (Wk.ren ((fun i => if i = 0 then 4 else i)) rfl (by first | (simp [hn]; done) | (intro i hi; rw [hn] at hi; constructor <;> (try simp) <;> (try (intro _)) <;> omega)) (by simp [zjk, St.lp, zal, zaa, getK, zac, zan, D.under, D.le, D.ren, zaq, zam, e1, hst] <;> (try (intros; simp_all; done)) <;> (try omega)) (by simp [wkR, St.lp, zaa, getK, zac, zan, obR, leU, zb2, za4, Ob.under, D.under, D.le, D.ren, zaq, zam, e1, hst] <;> (try (intros; simp_all; done)) <;> (try omega)) (by simp [zaq, zam, e1, hst]))
  ·rw [if_neg hb] at hst
   have hk2 : k = i := f1
   have e1 := zn0 V i
   repeat' (first
  | ((first | refine zag ?_ | refine zak ?_ | fail); simp [hx, hb, zaE, zea, hlrV, hsV])
  | (refine ⟨by omega, ?_⟩)
  | ((first | refine zah ?_ | refine zai ?_ | refine zat ?_ | fail); simp [hx, hb, zaE, zea, hlrV, hsV])
  | (refine zar ?_; simp only [zao])
  | (refine za9 ?_; simp [zao])
  | (refine ⟨?_, by omega⟩)
  | (intro hc <;> (try (exfalso; omega)))
  | fail)
   refine LoopW.next ⟨i + 1, by omega⟩ (by simp; omega) ?_
   exact (Wk.ren ((fun i => if i = 1 then 4 else i)) rfl (by first | (simp [hn]; done) | (intro i hi; rw [hn] at hi; constructor <;> (try simp) <;> (try (intro _)) <;> omega)) (by simp [zjk, St.lp, zal, zaa, getK, zac, zan, D.under, D.le, D.ren, zaq, zam, e1, hst] <;> (try (intros; simp_all; done)) <;> (try omega)) (by simp [wkR, St.lp, zaa, getK, zac, zan, obR, leU, zb2, za4, Ob.under, D.under, D.le, D.ren, zaq, zam, e1, hst] <;> (try (intros; simp_all; done)) <;> (try omega)) (by simp [zaq, zam, e1, hst]))
theorem zfN (f : Int) (l : List Lw) (hl : l.length ≤ 1000000) : Fun Tryz.prog 15 [.u (.int .i64 f), .u (zdY l)] (· = .tup [.u (.int .i64 (zck f l)), .u (ints (zgv f l))]) := by
 have he := zfq f l hl
 obtain ⟨f1, f2, f3, _, f5⟩ := zee f l
 unfold zck zgv
 rw [f5]
 cases hg : (eff f l).1.getLast? with
 | none =>
  have h0 : (eff f l).1 = [] := List.getLast?_eq_none_iff.1 hg
  rw [h0] at he
  simp only [ints, zdY, iN, List.map_nil] at he ⊢
  (refine Fun.of_body Tryz.func15 rfl (by simp) fun Γ hn => ?_); simp only [entry, ziC, ziN, maC, maN, oA, Tryz.ntmps15]
  repeat' (first
  | ((first | refine zag ?_ | refine zak ?_ | refine zah ?_ | refine zai ?_ | fail); simp)
  | ((first | refine zau ?_ | refine zar ?_ | fail); simp only [zao])
  | (refine CallP.fE (he) (by first | rfl | fail) (by first | (simp; done) | (simp; rfl) | fail) ?_; (try simp))
  | fail)
  (refine EndOK.val (.inr rfl) ?_; simp [zaI, zaf, zaw, Tryz.results15])
 | some n =>
  obtain ⟨G, h0⟩ := List.getLast?_eq_some_iff.1 hg
  have hnl := f3 n (by rw [h0]; simp)
  have hG : G.length ≤ 1000000 := by have := congrArg List.length h0; simp at this; omega
  obtain ⟨x, hx⟩ : ∃ x, l[n]? = some x := ⟨_, List.getElem?_eq_getElem hnl⟩
  rw [h0] at he
  simp only [hx, Option.map_some, Option.getD_some]
  have e1 : (List.map (fun n : Int => [U.int .i64 n]) (iN (G ++ [n])))[G.length]? = some [U.int .i64 n] := by simp [iN]
  have e2 : (List.map (fun n : Int => [U.int .i64 n]) (iN (G ++ [n]))).length = G.length + 1 := by simp [iN]
  simp only [ints, zdY] at he ⊢
  have e3 : ∀ h : G.length < (List.map (fun n : Int => [U.int .i64 n]) (iN (G ++ [n]))).length, (List.map (fun n : Int => [U.int .i64 n]) (iN (G ++ [n])))[G.length]'h = [U.int .i64 n] := fun h => (lGE.1 e1).2
  clear e1
  generalize List.map (fun n : Int => [U.int .i64 n]) (iN (G ++ [n])) = GR at *
  (refine Fun.of_body Tryz.func15 rfl (by simp) fun Γ hn => ?_); simp only [entry, ziC, ziN, maC, maN, oA, Tryz.ntmps15]
  repeat' (first
  | ((first | refine zag ?_ | refine zak ?_ | fail); simp [e3, e2, hx])
  | (refine ⟨by omega, ?_⟩)
  | ((first | refine zah ?_ | refine zai ?_ | refine zat ?_ | fail); simp [e3, e2, hx])
  | (refine zau ?_; simp only [zao])
  | (refine CallP.fE (he) (by first | rfl | fail) (by first | simp [e3, e2, hx] <;> rfl | fail) ?_; (try simp [e3, e2, hx]))
  | fail)
  (refine EndOK.val (.inr rfl) ?_; simp [zaI, zaf, zaw, Tryz.results15])
theorem zeH (first : List UInt8) (f : Int) (l : List Lw) (hl : l.length ≤ 1000000) : Fun Tryz.prog 18 [.u (.str first), .u (.int .i64 f), .u (zdY l)] (· = .u (.str (zgx first f l))) := by
 have he := zfq f l hl
 obtain ⟨f1, f2, f3, _, f5⟩ := zee f l
 unfold zgx
 cases hg : (eff f l).1.getLast? with
 | none =>
  have h0 : (eff f l).1 = [] := List.getLast?_eq_none_iff.1 hg
  rw [h0] at he
  simp only [ints, zdY, iN, List.map_nil] at he ⊢
  (refine Fun.of_body Tryz.func18 rfl (by simp) fun Γ hn => ?_); simp only [entry, ziC, ziN, maC, maN, oA, Tryz.ntmps18]
  repeat' (first
  | ((first | refine zag ?_ | refine zak ?_ | refine zah ?_ | refine zai ?_ | fail); simp)
  | ((first | refine zau ?_ | refine zar ?_ | fail); simp only [zao])
  | (refine CallP.fE (he) (by first | rfl | fail) (by first | (simp; done) | (simp; rfl) | fail) ?_; (try simp))
  | fail)
  (refine EndOK.val (.inr rfl) ?_; simp [zaI, zaf, zaw, Tryz.results18])
 | some n =>
  obtain ⟨G, h0⟩ := List.getLast?_eq_some_iff.1 hg
  have hnl := f3 n (by rw [h0]; simp)
  have hG : G.length ≤ 1000000 := by have := congrArg List.length h0; simp at this; omega
  obtain ⟨x, hx⟩ : ∃ x, l[n]? = some x := ⟨_, List.getElem?_eq_getElem hnl⟩
  rw [h0] at he
  simp only [hx, Option.map_some, Option.getD_some]
  have e1 : (List.map (fun n : Int => [U.int .i64 n]) (iN (G ++ [n])))[G.length]? = some [U.int .i64 n] := by simp [iN]
  have e2 : (List.map (fun n : Int => [U.int .i64 n]) (iN (G ++ [n]))).length = G.length + 1 := by simp [iN]
  simp only [ints, zdY] at he ⊢
  have e3 : ∀ h : G.length < (List.map (fun n : Int => [U.int .i64 n]) (iN (G ++ [n]))).length, (List.map (fun n : Int => [U.int .i64 n]) (iN (G ++ [n])))[G.length]'h = [U.int .i64 n] := fun h => (lGE.1 e1).2
  clear e1
  generalize List.map (fun n : Int => [U.int .i64 n]) (iN (G ++ [n])) = GR at *
  (refine Fun.of_body Tryz.func18 rfl (by simp) fun Γ hn => ?_); simp only [entry, ziC, ziN, maC, maN, oA, Tryz.ntmps18]
  repeat' (first
  | ((first | refine zag ?_ | refine zak ?_ | fail); simp [e3, e2, hx])
  | (refine ⟨by omega, ?_⟩)
  | ((first | refine zah ?_ | refine zai ?_ | fail); simp [e3, e2, hx])
  | (refine zau ?_; simp only [zao])
  | (refine CallP.fE (he) (by first | rfl | fail) (by first | simp [e3, e2, hx] <;> rfl | fail) ?_; (try simp [e3, e2, hx]))
  | fail)
  (refine EndOK.val (.inr rfl) ?_; simp [zaI, zaf, zaw, Tryz.results18])
open Df in
theorem zfR (f : Int) (l : List Lw) (hl : l.length ≤ 1000000) : Fun Tryz.prog 17 [.u (.int .i64 f), .u (zdY l)] (· = .u (ints (zc2 f l))) := by
 have he := zfq f l hl
 obtain ⟨f1, f2, f3, _, f5⟩ := zee f l
 unfold zc2 zhP
 generalize (eff f l).1 = G at *
 generalize iN (eff f l).2.1 = V at he
 have hg : G.length ≤ l.length := by omega
 obtain ⟨ML, hML⟩ : ∃ ML : List Int, ML = G.map fun n => ((l[n]?).map (·.mark)).getD 0 := ⟨_, rfl⟩
 rw [← hML]
 have hMLl : ML.length = G.length := by rw [hML, List.length_map]
 have hMLi : ∀ (i n : Nat) (x : Lw), G[i]? = some n → l[n]? = some x → ML[i]? = some x.mark := fun i n x h1 h2 => by rw [hML, List.getElem?_map, h1]; simp [h2]
 clear hML
 simp only [ints, zdY] at he ⊢
 (refine Fun.of_bodyW Tryz.func17 rfl (by simp) fun Γ hn => ?_); simp only [entry, ziC, ziN, maC, maN, oA, Tryz.ntmps17]
 repeat' (first
  | ((first | refine zag ?_ | refine zak ?_ | refine zah ?_ | refine zaA ?_ | fail); simp)
  | (refine CallP.fE (he) (by first | rfl | fail) (by first | (simp; done) | (simp; rfl) | fail) ?_; (try simp))
  | fail)
 refine zcn (α := { i : Nat // i ≤ G.length }) [1, 18, 19] (fun i => [(7, .vec 0 (i.1 + 1)), (20, .u (.int .i64 i.1))])
  (fun i => [(0, .vec 3 1 (zbn (f :: ML.take i.1)))]) 1 (fun i => G.length - i.1) ⟨0, by omega⟩ ?_ ?_
 ·exact (Wk.cut rfl (by simp [hn, St.lp]) (by simp [wkO, St.lp, zaa, getK, Ob.under, D.under, zad, zae, zbn, iN]) (by simp [wkU, St.lp, zal, zaa, getK, D.under, zbn, iN]) (by simp [wkE, St.lp, zal, zaa, getK, zbn, iN] <;> (try (intros; simp_all; done)) <;> (try (intros; omega)) <;> (try grind)))
 rintro ⟨i, hi⟩
 simp [St.lp, St.only, zal, zaa, getK]
 have hmin : min i ML.length = i := by omega
 rcases hx : G[i]? with _ | n
 ·have hge : G.length ≤ i := by simpa using hx
  obtain rfl : i = G.length := by omega
  have ht : ML.take G.length = ML := List.take_of_length_le (by omega)
  repeat' (first
  | ((first | refine zag ?_ | refine zak ?_ | refine zah ?_ | fail); simp [hx, iN])
  | (refine zau ?_; simp only [zao])
  | (refine za9 ?_; simp [zao])
  | fail)
  (refine EndW.frzN 1 ?_; simp [frzN, frz1, zaC, zaB, St.frz, St.frzS, frzS, fv, zaQ, za2, za3, frzObS, zay, zas, del, frz, za7, zdR, zaE, zea, ht, hMLl])
  refine EndW.norm (EndW.here ?_)
  (refine EndOK.val (.inr rfl) ?_; simp [zaI, zaf, zaw, Tryz.results17, zaB, zaC, zcq, zcr, frz, za7, frzS, fv, zaQ, za2, za3, frzObS, zay, zas, zbR, zb6, zb7, zbc, zdR, zaE, zea])
 ·have hlt : i < G.length := (lGE.1 hx).1
  have hnl := f3 n (List.mem_of_getElem? hx)
  obtain ⟨x, hy⟩ : ∃ x, l[n]? = some x := ⟨_, List.getElem?_eq_getElem hnl⟩
  have hlR : ∀ L : List Int, ziV 1 (zbn L) := fun L => zdI L
  have hm := hMLi i n x hx hy
  have hsn : ML.take (i + 1) = ML.take i ++ [x.mark] := by rw [List.take_succ, hm]; rfl
  have hs := zhk (f :: ML.take i) x.mark
  have hIN : ∀ h : i < (iN G).length, (iN G)[i]'h = (n : Int) := fun h => (lGE.1 (show (iN G)[i]? = some (n : Int) by simp [iN, hx])).2
  repeat' (first
  | ((first | refine zag ?_ | refine zak ?_ | fail); simp [hlt, zea, hIN, hy, zaE, hmin, hlR, hs])
  | (refine ⟨by omega, ?_⟩)
  | ((first | refine zah ?_ | refine zat ?_ | fail); simp [hlt, zea, hIN, hy, zaE, hmin, hlR, hs])
  | (refine zar ?_; simp only [zao])
  | fail)
  refine LoopW.next ⟨i + 1, by omega⟩ (by simp; omega) ?_
  exact (Wk.ren ((fun i => if i = 0 then 2 else i)) rfl (by first | (simp [hn]; done) | (intro i hi; rw [hn] at hi; constructor <;> (try simp) <;> (try (intro _)) <;> omega)) (by simp [zjk, St.lp, zal, zaa, getK, zac, zan, D.under, D.le, D.ren, zaq, zam, hsn] <;> (try (intros; simp_all; done)) <;> (try omega)) (by simp [wkR, St.lp, zaa, getK, zac, zan, obR, leU, zb2, za4, Ob.under, D.under, D.le, D.ren, zaq, zam, hsn] <;> (try (intros; simp_all; done)) <;> (try omega)) (by simp [zaq, zam, hsn]))
end Go.Proofs.YtepiegcjnaohjaaGreatDoor
namespace Go.Proofs.YtepiegcjnaohjaaGreatDoor
open Go Go.VL
attribute [local simp] zc8 zb5 evPure opd uOf zaG St.put St.at getK binD binI binS binB nilD aggD zgN zhG lookD lookR zcF Go.VL.nextD zcH zhM zhH zfY zb4 mkV zbl zbf zbe zbd zc5 za8 zbt zbG mapEff zdl zfy Key.kk shiftI arith unD convD zdL loadD cellsAt fieldAddrD fieldD indexAddrD indexD sliceD cutD lenD minmaxD nilCheckD buildD fillD zbY zdg ze1 setAll zcV zeA zcw zht zct St.add zaM zbP rowsOf zdG zcK zan zac zaa zbi zcN zaK entry zbE zbI valD zb8 zcg zgC zds zdt zb1 zbK zaz zaX zbz delAll effD St.effS zc6 zbg zaZ zc7 zbh za1 zch za0 zaT zci zcW zbL zcc zbs zca zcb zaR mkD zbk zbC zbQ zaz zcv D.ids Op.operands Call.operands zbu makeIfD makeFuncD typeAssertD zhF zdy zdz zhE zcG IntKind.bits zb9 zaS List.take_of_length_le List.range_succ
attribute [local irreducible] V G H HD HD2 zao Eff CallP CallV EndOK Fun Ret FinOK LoopI LoopW EndW
def zdm (lets : List Let) (names : List Var) (e : Exp) : Int × Int := if okJ lets names e = true then zdV (gF (gOf names)) (mF (mOf (gOf names) lets)) e else (0, 1)
theorem zd1 (lets : List Let) (names : List Var) (e : Exp) : Fun Tryz.prog 110 [.u (zeO lets), .u (zgw names), zes e] (· = .tup [.u (.int .i64 (zdm lets names e).1), .u (.int .i64 (zdm lets names e).2)]) := by
 have h1 := znR lets names e
 unfold zdm
 unfold znS at h1
 cases hK : okJ lets names e
 ·rw [hK] at h1
  simp only [zeO, zgw, zes, Bool.false_eq_true, if_false] at h1 ⊢
  (refine Fun.of_body Tryz.func110 rfl (by simp) fun Γ hn => ?_); simp only [entry, ziC, ziN, maC, maN, oA, Tryz.ntmps110]
  repeat' (first
  | ((first | refine zag ?_ | refine zak ?_ | refine zah ?_ | refine zai ?_ | fail); simp)
  | (refine zau ?_; simp only [zao])
  | (refine CallP.fE (h1) (by first | rfl | fail) (by first | (simp; done) | (simp; rfl) | fail) ?_; (try simp))
  | fail)
  (refine EndOK.val (.inr rfl) ?_; simp [zaI, zaf, zaw, Tryz.results110])
 ·rw [hK] at h1
  have hre : zbx 12 e = true := by
   simp only [okJ, Bool.and_eq_true] at hK
   exact (zlV hK.1).2.1
  have h2 := ziD (gOf names) (mOf (gOf names) lets) 12 e hre
  simp only [zeO, zgw, zes, if_true, jU] at h1 h2 ⊢
  generalize zdV (gF (gOf names)) (mF (mOf (gOf names) lets)) e = r at h2 ⊢
  (refine Fun.of_body Tryz.func110 rfl (by simp) fun Γ hn => ?_); simp only [entry, ziC, ziN, maC, maN, oA, Tryz.ntmps110]
  repeat' (first
  | ((first | refine zag ?_ | refine zak ?_ | refine zah ?_ | refine zai ?_ | fail); simp)
  | ((first | refine zau ?_ | refine zar ?_ | fail); simp only [zao])
  | (refine CallP.fE (h1) (by first | rfl | fail) (by first | (simp; done) | (simp; rfl) | fail) ?_; (try simp))
  | (refine CallP.fE (h2) (by first | rfl | fail) (by first | (simp; done) | (simp; rfl) | fail) ?_; (try simp))
  | fail)
  (refine EndOK.val (.inr rfl) ?_; simp [zaI, zaf, zaw, Tryz.results110])
def zbB (c : List UInt8) : List Var :=
 if c = [100, 117, 101] then [⟨[109, 101, 109, 98, 101, 114, 115], 1, 0⟩, ⟨[112, 101, 114, 105, 111, 100], 1, 0⟩, ⟨[108, 97, 115, 116], 1, 0⟩, ⟨[97, 103, 101], 2, 0⟩]
 else if c = [102, 105, 110, 101] then [⟨[108, 97, 116, 101], 2, 0⟩, ⟨[109, 101, 109, 98, 101, 114, 115], 1, 0⟩, ⟨[112, 101, 114, 105, 111, 100], 1, 0⟩, ⟨[108, 97, 115, 116], 1, 0⟩, ⟨[97, 103, 101], 2, 0⟩]
 else if c = [112, 97, 121] then [⟨[112, 111, 116], 3, 0⟩, ⟨[98, 105, 100], 3, 0⟩, ⟨[109, 101, 109, 98, 101, 114, 115], 1, 0⟩, ⟨[112, 101, 114, 105, 111, 100], 1, 0⟩]
 else if c = [99, 111, 118, 101, 114] then [⟨[112, 97, 105, 100], 3, 0⟩, ⟨[99, 108, 97, 105, 109, 115], 1, 0⟩, ⟨[97, 103, 101], 2, 0⟩, ⟨[109, 101, 109, 98, 101, 114, 115], 1, 0⟩]
 else if c = [104, 111, 108, 100] then [⟨[109, 101, 109, 98, 101, 114, 115], 1, 0⟩, ⟨[104, 111, 108, 100, 115], 3, 0⟩]
 else []
def clausesL : List (List UInt8) := [[100, 117, 101], [102, 105, 110, 101], [112, 97, 121], [99, 111, 118, 101, 114], [104, 111, 108, 100]]
def zsR (b : By) (c : List UInt8) : Exp :=
 if c = [100, 117, 101] then b.due else if c = [102, 105, 110, 101] then b.fine else if c = [112, 97, 121] then b.pay else if c = [99, 111, 118, 101, 114] then b.cover else b.hold
def zgs (s : List UInt8) : Bool := clausesL.any fun c => (zbB c).any fun v => decide (v.name = s)
theorem zqM {α : Type} {p : α → Bool} {l : List α} {i : Nat} {x : α} (h : ∀ c ∈ l.take i, p c = false) (hx : l[i]? = some x) (hp : p x = true) : l.find? p = some x := by
 induction l generalizing i with
 | nil => simp at hx
 | cons a l ih =>
  cases i with
  | zero => simp at hx; subst hx; simp [hp]
  | succ i =>
   rw [List.find?_cons, h a (by simp)]
   exact ih (i := i) (fun c hc => h c (by simp [hc])) (by simpa using hx)
theorem zqL {α : Type} {p : α → Bool} {l : List α} (h : ∀ c ∈ l, p c = false) : l.find? p = none := by
 rw [List.find?_eq_none]
 intro x hx
 simp [h x hx]
def zmH (c : List UInt8) : Key × List U := (Key.s c, [zgw (zbB c)])
def zij : List (Key × List U) := clausesL.map zmH
theorem zn6 : Fun Tryz.prog 86 [] (· = .tup [.u (zek clausesL), .u (.map .s false zij)]) := by
 (refine Fun.of_bodyW Tryz.func86 rfl (by simp) fun Γ hn => ?_); simp only [entry, ziC, ziN, maC, maN, oA, Tryz.ntmps86]
 repeat' (first
  | ((first | refine zag ?_ | refine zak ?_ | refine zah ?_ | fail); simp [zbI, zbE])
  | (refine zq4 rfl (by kernel_rfl) (by kernel_rfl) (by simp [hn]) fun C k hC hk => ?_; simp [zbI, zbE])
  | ((first | refine zrf rfl ?_ | refine zrg ?_ | refine zrk rfl rfl ?_ | fail); simp [zbI, zbE])
  | (refine zrh (hC _ _ (by kernel_rfl) (by kernel_rfl)) (hk _ ?_); clear hC hk C k; simp only [zao]; simp [St.ins, zpl, zsf, zan, zaa])
  | (refine zau ?_; simp only [zao])
  | fail)
 (refine EndW.frzN 8 ?_; simp [frzN, frz1, zaC, zaB, St.frz, St.frzS, frzS, fv, zaQ, za2, za3, frzObS, zay, zas, del, frz, za7])
 refine EndW.here ?_
 (refine EndOK.val (.inr rfl) ?_; simp [zaI, zaf, zaw, Tryz.results86])
 simp [zek, clausesL, zij, zmH, zgw, zbB]
theorem zd7 (c : List UInt8) : zb4 zij (.s c) = if c ∈ clausesL then some [zgw (zbB c)] else none := by
 simp only [zij, clausesL, List.map_cons, List.map_nil, zmH, zb4, Key.s.injEq, List.mem_cons, List.not_mem_nil, or_false]
 repeat' split
 all_goals simp_all
def zrx (v : Var) : D := .u (.agg [.str v.name, .int .i64 v.unit, .int .i64 v.n])
theorem zmi (l : List (Var)) (f : FuncId) (caps : List U) (p : Var → Bool) (hf : ∀ n ∈ l, Fun Tryz.prog f (zrx n :: caps.map .u) (· = .u (.bool (p n)))) (hcl : zaj Tryz.prog f = true)
  (hca : ∀ o, zcg o (caps.map .u) = some (caps.map .u, [])) : Fun Tryz.prog 160 [.u (zgw l), .fnc (.func f) (caps.map .u)] (· = .u (.int .i64 (ze6 p l 0))) := by
 (refine Fun.of_body Tryz.func160 rfl (by simp) fun Γ hn => ?_); simp only [entry, ziC, ziN, maC, maN, oA, Tryz.ntmps160]
 simp only [zgw]
 refine zgD (x := 0) rfl fun hl => ?_
 simp at hl
 repeat' (first
  | ((first | refine zag ?_ | refine zak ?_ | refine zah ?_ | refine zaA ?_ | fail); simp)
  | fail)
 refine zbS (α := { i : Nat // i ≤ l.length ∧ ∀ c ∈ l.take i, p c = false }) [0, 1, 7] (fun i => [(8, .u (.int .i64 i.1))]) (fun i => l.length - i.1) ⟨0, by omega, by simp⟩ ?_ ?_
 ·exact (Wk.env rfl rfl rfl (by simp [wkE, St.lp, zal, zaa, getK] <;> (try (intros; simp_all; done)) <;> (try (intros; omega)) <;> (try grind)))
 rintro ⟨i, hi, hb⟩
 simp [St.lp, St.only, zal, zaa, getK]
 rcases hx : l[i]? with _ | n
 ·have hge : l.length ≤ i := by simpa using hx
  repeat' (first
  | ((first | refine zag ?_ | refine zak ?_ | fail); simp [hx])
  | (refine ⟨by omega, ?_⟩)
  | (refine zah ?_; simp [hx])
  | (refine zau ?_; simp only [zao])
  | (refine za9 ?_; simp [zao])
  | (intro hc <;> (try (exfalso; omega)))
  | fail)
  (refine EndOK.val (.inr rfl) ?_; simp [zaI, zaf, zaw, Tryz.results160])
  rw [List.take_of_length_le hge] at hb
  exact (zdo hb).symm
 ·have hlt : i < l.length := (lGE.1 hx).1
  have h1 := hf n (List.mem_of_getElem? hx)
  simp only [zrx] at h1
  cases hp : p n
  ·rw [hp] at h1
   repeat' (first
  | ((first | refine zag ?_ | refine zak ?_ | fail); simp [hx, hca])
  | (refine ⟨by omega, ?_⟩)
  | ((first | refine zah ?_ | refine zai ?_ | refine zat ?_ | fail); simp [hx, hca])
  | (refine zar ?_; simp only [zao])
  | (refine ⟨?_, by omega⟩)
  | (intro hc <;> (try (exfalso; omega)))
  | (refine CallP.fE (h1) (by first | rfl | fail) (by first | simp [hx, hca] <;> rfl | fail) ?_; (try simp [hcl, hx, hca]))
  | fail)
   refine LoopW.next ⟨i + 1, by omega, zaY hx hb hp⟩ (by simp; omega) ?_
   exact (Wk.env rfl rfl rfl (by simp [wkE, St.lp, zal, zaa, getK] <;> (try (intros; simp_all; done)) <;> (try (intros; omega)) <;> (try grind)))
  ·rw [hp] at h1
   repeat' (first
  | ((first | refine zag ?_ | refine zak ?_ | refine zah ?_ | refine zai ?_ | fail); simp [hx, hca])
  | ((first | refine zau ?_ | refine zar ?_ | fail); simp only [zao])
  | (refine ⟨?_, by omega⟩)
  | (intro hc <;> (try (exfalso; omega)))
  | (refine CallP.fE (h1) (by first | rfl | fail) (by first | simp [hx, hca] <;> rfl | fail) ?_; (try simp [hcl, hx, hca]))
  | fail)
   (refine EndOK.val (.inr rfl) ?_; simp [zaI, zaf, zaw, Tryz.results160])
   rw [zeQ hb hx hp]
   omega
theorem zi8 (l : List (Var)) (f : FuncId) (caps : List U) (p : Var → Bool) (hf : ∀ n ∈ l, Fun Tryz.prog f (zrx n :: caps.map .u) (· = .u (.bool (p n)))) (hcl : zaj Tryz.prog f = true)
  (hca : ∀ o, zcg o (caps.map .u) = some (caps.map .u, [])) (hcb : ∀ o, zbK o (caps.map .u) = some (caps, [])) : Fun Tryz.prog 108 [.u (zgw l), .fnc (.func f) (caps.map .u)] (· = .u (.bool (l.any p))) := by
 have h1 := zmi l f caps p hf hcl hca
 (refine Fun.of_body Tryz.func108 rfl (by simp) fun Γ hn => ?_); simp only [entry, ziC, ziN, maC, maN, oA, Tryz.ntmps108]
 simp only [zgw] at h1 ⊢
 repeat' (first
  | ((first | refine zag ?_ | refine zak ?_ | refine zah ?_ | fail); simp [hcb])
  | (refine zau ?_; simp only [zao])
  | (refine CallP.fE (h1) (by first | rfl | fail) (by first | simp [hcb] <;> rfl | fail) ?_; (try simp [hcl, hcb]))
  | fail)
 (refine EndOK.val (.inr rfl) ?_; simp [zaI, zaf, zaw, Tryz.results108])
 have h2 := zeq p l 0 (by omega)
 rw [Bool.eq_iff_iff]
 simpa using h2
theorem zip (v : Var) (l : Let) : Fun Tryz.prog 109 (zrx v :: [U.row (zgr l) 0].map .u) (· = .u (.bool (decide (v.name = l.name)))) := by
 simp only [zrx, zgr, List.map_cons, List.map_nil]
 (refine Fun.of_body Tryz.func109 rfl (by simp) fun Γ hn => ?_); simp only [entry, ziC, ziN, maC, maN, oA, Tryz.ntmps109]
 repeat' (first
  | ((first | refine zag ?_ | refine zak ?_ | refine zah ?_ | fail); simp)
  | (refine zau ?_; simp only [zao])
  | fail)
 (refine EndOK.val (.inr rfl) ?_; simp [zaI, zaf, zaw, Tryz.results109])
def zfs (b : By) (c : List UInt8) : Option (List UInt8 × Int) :=
 if (zdm b.lets (zbB c) (zsR b c)).2 = 0 then (if (zdm b.lets (zbB c) (zsR b c)).1 ≠ 3 then some (c, 14) else none) else some (c, (zdm b.lets (zbB c) (zsR b c)).2)
def zd0 (b : By) : List (List UInt8) → List UInt8 × Int
 | [] => ([], 0)
 | c :: r => match zfs b c with | some x => x | none => zd0 b r
def zeg (b : By) : List UInt8 × Int := if zcX b = false then ([], 1) else match b.lets.find? (fun l => zgs l.name) with | some l => (l.name, 5) | none => zd0 b clausesL
theorem zmB (b : By) : Fun Tryz.prog 53 [.u (.agg (zbr b))] (· = .tup [.u (.str (zeg b).1), .u (.int .i64 (zeg b).2)]) := by
 have h0 := zg3 b
 have h1 := zn6
 have hrb : zcX b = true → b.lets.length ≤ 20 := fun h => by
  simp only [zcX, Bool.and_eq_true, decide_eq_true_eq] at h
  exact h.1.1.2
 unfold zeg
 generalize zcX b = rb at h0 hrb ⊢
 simp only [zbr] at h0
 cases rb
 ·(refine Fun.of_body Tryz.func53 rfl (by simp) fun Γ hn => ?_); simp only [entry, ziC, ziN, maC, maN, oA, Tryz.ntmps53]
  simp only [zbr]
  repeat' (first
  | ((first | refine zag ?_ | refine zak ?_ | refine zah ?_ | refine zai ?_ | fail); simp)
  | (refine zau ?_; simp only [zao])
  | (refine CallP.fE (h0) (by first | rfl | fail) (by first | (simp; done) | (simp; rfl) | fail) ?_; (try simp))
  | fail)
  (refine EndOK.val (.inr rfl) ?_; simp [zaI, zaf, zaw, Tryz.results53])
 have h20 := hrb rfl
 (refine Fun.of_body Tryz.func53 rfl (by simp) fun Γ hn => ?_); simp only [entry, ziC, ziN, maC, maN, oA, Tryz.ntmps53]
 simp only [zbr]
 repeat' (first
  | ((first | refine zag ?_ | refine zak ?_ | refine zah ?_ | refine zai ?_ | refine zaA ?_ | fail); simp)
  | (refine zar ?_; simp only [zao])
  | (refine CallP.fE (h0) (by first | rfl | fail) (by first | (simp; done) | (simp; rfl) | fail) ?_; (try simp))
  | (refine CallP.fE (h1) (by first | rfl | fail) (by first | (simp; done) | (simp; rfl) | fail) ?_; (try simp))
  | fail)
 refine zbS (α := { i : Nat // i ≤ b.lets.length ∧ ∀ l ∈ b.lets.take i, zgs l.name = false }) [1, 4, 5, 22, 23] (fun i => [(24, .u (.int .i64 i.1))]) (fun i => b.lets.length - i.1) ⟨0, by omega, by simp⟩ ?_ ?_
 ·exact (Wk.cut rfl (by simp [hn, St.lp]) (by simp [wkO, St.lp, zaa, getK, Ob.under, D.under, zad, zae]) (by simp [wkU, St.lp, zal, zaa, getK, D.under]) (by simp [wkE, St.lp, zal, zaa, getK] <;> (try (intros; simp_all; done)) <;> (try (intros; omega)) <;> (try grind)))
 rintro ⟨i, hi, hb⟩
 simp [St.lp, St.only, zal, zaa, getK]
 rcases hx : b.lets[i]? with _ | l
 ·have hge : b.lets.length ≤ i := by simpa using hx
  obtain rfl : i = b.lets.length := by omega
  rw [List.take_length] at hb
  have hfn := zqL (p := fun l : Let => zgs l.name) hb
  repeat' (first
  | ((first | refine zag ?_ | refine zak ?_ | refine zah ?_ | refine zaA ?_ | fail); simp [hx, zbI, zbE])
  | (refine za9 ?_; simp [zao])
  | fail)
  have step : ∀ {k : Nat} {c : List UInt8}, clausesL[k]? = some c → zd0 b clausesL = zd0 b (clausesL.drop k) → zd0 b clausesL = match zfs b c with | some x => x | none => zd0 b (clausesL.drop (k + 1)) := fun {k c} h1 h2 => by
   obtain ⟨hk, rfl⟩ := lGE.1 h1
   rw [h2, List.drop_eq_getElem_cons hk, zd0]
  refine zbS (α := { k : Nat // k ≤ 5 ∧ zd0 b clausesL = zd0 b (clausesL.drop k) }) [1, 4, 5, 50, 51] (fun k => [(52, .u (.int .i64 k.1))]) (fun k => 5 - k.1) ⟨0, by omega, by simp⟩ ?_ ?_
  ·exact (Wk.cut rfl (by simp [hn, St.lp]) (by simp [wkO, St.lp, zaa, getK, Ob.under, D.under, zad, zae]) (by simp [wkU, St.lp, zal, zaa, getK, D.under]) (by simp [wkE, St.lp, zal, zaa, getK] <;> (try (intros; simp_all; done)) <;> (try (intros; omega)) <;> (try grind)))
  rintro ⟨k, hk, hd⟩
  simp [St.lp, St.only, zal, zaa, getK]
  have hk6 : k = 0 ∨ k = 1 ∨ k = 2 ∨ k = 3 ∨ k = 4 ∨ k = 5 := by omega
  rcases hk6 with rfl | rfl | rfl | rfl | rfl | rfl
  ·have st := step (k := 0) (c := [100, 117, 101]) rfl hd
   have e1 := zd1 b.lets (zbB [100, 117, 101]) b.due
   have hlk := zd7 [100, 117, 101]
   rw [if_pos (by simp [clausesL])] at hlk
   have cp : zfs b [100, 117, 101] = if (zdm b.lets (zbB [100, 117, 101]) b.due).2 = 0 then (if (zdm b.lets (zbB [100, 117, 101]) b.due).1 ≠ 3 then some ([100, 117, 101], 14) else none) else some ([100, 117, 101], (zdm b.lets (zbB [100, 117, 101]) b.due).2) := rfl
   generalize zdm b.lets (zbB [100, 117, 101]) b.due = r at e1 cp
   obtain ⟨u, er⟩ := r
   simp only [zes, zeO] at e1
   simp only at cp
   have hcl : clausesL[0]? = some [100, 117, 101] := rfl
   repeat' (first
  | ((first | refine zag ?_ | refine zbU ?_ | refine zak ?_ | fail); simp [hlk, hcl, zek])
  | (refine ⟨by omega, ?_⟩)
  | ((first | refine zah ?_ | refine zai ?_ | fail); simp [hlk, hcl, zek])
  | (refine zcI ?_)
  | (refine hk _ ?_; clear hk k; simp only [zao])
  | (refine zbT rfl (by kernel_rfl) (by kernel_rfl) fun k hk => ?_; simp [hlk, hcl, zek])
  | (refine zat ?_; simp [hlk, hcl, zek])
  | ((first | refine zau ?_ | refine zar ?_ | fail); simp only [zao])
  | (refine ⟨?_, by omega⟩)
  | (refine ⟨fun hc => ?_, fun hc => ?_⟩ <;> (try (exfalso; omega)))
  | (intro hc <;> (try (exfalso; omega)))
  | (refine CallV.fun_ (e1) (by first | rfl | fail) (by first | simp [hlk, hcl, zek] <;> rfl | fail) ?_ <;> (try simp [hlk, hcl, zek]))
  | fail)
   all_goals first
    | (have g1 : er = 0 := (by first | assumption | fail); have g2 : u = 3 := (by first | assumption | fail); rw [cp, if_pos g1, if_neg (by simp [g2])] at st; refine LoopW.next ⟨0 + 1, by omega, st⟩ (by simp) ?_; exact (Wk.cut rfl (by simp [hn, St.lp]) (by simp [wkO, St.lp, zaa, getK, Ob.under, D.under, zad, zae]) (by simp [wkU, St.lp, zal, zaa, getK, D.under]) (by simp [wkE, St.lp, zal, zaa, getK] <;> (try (intros; simp_all; done)) <;> (try (intros; omega)) <;> (try grind))))
    | (have g1 : er = 0 := (by first | assumption | fail); have g2 : ¬ u = 3 := (by first | assumption | fail); rw [cp, if_pos g1, if_pos g2] at st; (refine EndOK.val (.inr rfl) ?_; simp [zaI, zaf, zaw, Tryz.results53]); rw [hfn, st]; simp; done)
    | (have g1 : ¬ er = 0 := (by first | assumption | fail); rw [cp, if_neg g1] at st; (refine EndOK.val (.inr rfl) ?_; simp [zaI, zaf, zaw, Tryz.results53]); rw [hfn, st]; simp; done)
  ·have st := step (k := 1) (c := [102, 105, 110, 101]) rfl hd
   have e1 := zd1 b.lets (zbB [102, 105, 110, 101]) b.fine
   have hlk := zd7 [102, 105, 110, 101]
   rw [if_pos (by simp [clausesL])] at hlk
   have cp : zfs b [102, 105, 110, 101] = if (zdm b.lets (zbB [102, 105, 110, 101]) b.fine).2 = 0 then (if (zdm b.lets (zbB [102, 105, 110, 101]) b.fine).1 ≠ 3 then some ([102, 105, 110, 101], 14) else none) else some ([102, 105, 110, 101], (zdm b.lets (zbB [102, 105, 110, 101]) b.fine).2) := rfl
   generalize zdm b.lets (zbB [102, 105, 110, 101]) b.fine = r at e1 cp
   obtain ⟨u, er⟩ := r
   simp only [zes, zeO] at e1
   simp only at cp
   have hcl : clausesL[1]? = some [102, 105, 110, 101] := rfl
   repeat' (first
  | ((first | refine zag ?_ | refine zbU ?_ | refine zak ?_ | fail); simp [hlk, hcl, zek])
  | (refine ⟨by omega, ?_⟩)
  | ((first | refine zah ?_ | refine zai ?_ | fail); simp [hlk, hcl, zek])
  | (refine zcI ?_)
  | (refine hk _ ?_; clear hk k; simp only [zao])
  | (refine zbT rfl (by kernel_rfl) (by kernel_rfl) fun k hk => ?_; simp [hlk, hcl, zek])
  | (refine zat ?_; simp [hlk, hcl, zek])
  | ((first | refine zau ?_ | refine zar ?_ | fail); simp only [zao])
  | (refine ⟨?_, by omega⟩)
  | (refine ⟨fun hc => ?_, fun hc => ?_⟩ <;> (try (exfalso; omega)))
  | (intro hc <;> (try (exfalso; omega)))
  | (refine CallV.fun_ (e1) (by first | rfl | fail) (by first | simp [hlk, hcl, zek] <;> rfl | fail) ?_ <;> (try simp [hlk, hcl, zek]))
  | fail)
   all_goals first
    | (have g1 : er = 0 := (by first | assumption | fail); have g2 : u = 3 := (by first | assumption | fail); rw [cp, if_pos g1, if_neg (by simp [g2])] at st; refine LoopW.next ⟨1 + 1, by omega, st⟩ (by simp) ?_; exact (Wk.cut rfl (by simp [hn, St.lp]) (by simp [wkO, St.lp, zaa, getK, Ob.under, D.under, zad, zae]) (by simp [wkU, St.lp, zal, zaa, getK, D.under]) (by simp [wkE, St.lp, zal, zaa, getK] <;> (try (intros; simp_all; done)) <;> (try (intros; omega)) <;> (try grind))))
    | (have g1 : er = 0 := (by first | assumption | fail); have g2 : ¬ u = 3 := (by first | assumption | fail); rw [cp, if_pos g1, if_pos g2] at st; (refine EndOK.val (.inr rfl) ?_; simp [zaI, zaf, zaw, Tryz.results53]); rw [hfn, st]; simp; done)
    | (have g1 : ¬ er = 0 := (by first | assumption | fail); rw [cp, if_neg g1] at st; (refine EndOK.val (.inr rfl) ?_; simp [zaI, zaf, zaw, Tryz.results53]); rw [hfn, st]; simp; done)
  ·have st := step (k := 2) (c := [112, 97, 121]) rfl hd
   have e1 := zd1 b.lets (zbB [112, 97, 121]) b.pay
   have hlk := zd7 [112, 97, 121]
   rw [if_pos (by simp [clausesL])] at hlk
   have cp : zfs b [112, 97, 121] = if (zdm b.lets (zbB [112, 97, 121]) b.pay).2 = 0 then (if (zdm b.lets (zbB [112, 97, 121]) b.pay).1 ≠ 3 then some ([112, 97, 121], 14) else none) else some ([112, 97, 121], (zdm b.lets (zbB [112, 97, 121]) b.pay).2) := rfl
   generalize zdm b.lets (zbB [112, 97, 121]) b.pay = r at e1 cp
   obtain ⟨u, er⟩ := r
   simp only [zes, zeO] at e1
   simp only at cp
   have hcl : clausesL[2]? = some [112, 97, 121] := rfl
   repeat' (first
  | ((first | refine zag ?_ | refine zbU ?_ | refine zak ?_ | fail); simp [hlk, hcl, zek])
  | (refine ⟨by omega, ?_⟩)
  | ((first | refine zah ?_ | refine zai ?_ | fail); simp [hlk, hcl, zek])
  | (refine zcI ?_)
  | (refine hk _ ?_; clear hk k; simp only [zao])
  | (refine zbT rfl (by kernel_rfl) (by kernel_rfl) fun k hk => ?_; simp [hlk, hcl, zek])
  | (refine zat ?_; simp [hlk, hcl, zek])
  | ((first | refine zau ?_ | refine zar ?_ | fail); simp only [zao])
  | (refine ⟨?_, by omega⟩)
  | (refine ⟨fun hc => ?_, fun hc => ?_⟩ <;> (try (exfalso; omega)))
  | (intro hc <;> (try (exfalso; omega)))
  | (refine CallV.fun_ (e1) (by first | rfl | fail) (by first | simp [hlk, hcl, zek] <;> rfl | fail) ?_ <;> (try simp [hlk, hcl, zek]))
  | fail)
   all_goals first
    | (have g1 : er = 0 := (by first | assumption | fail); have g2 : u = 3 := (by first | assumption | fail); rw [cp, if_pos g1, if_neg (by simp [g2])] at st; refine LoopW.next ⟨2 + 1, by omega, st⟩ (by simp) ?_; exact (Wk.cut rfl (by simp [hn, St.lp]) (by simp [wkO, St.lp, zaa, getK, Ob.under, D.under, zad, zae]) (by simp [wkU, St.lp, zal, zaa, getK, D.under]) (by simp [wkE, St.lp, zal, zaa, getK] <;> (try (intros; simp_all; done)) <;> (try (intros; omega)) <;> (try grind))))
    | (have g1 : er = 0 := (by first | assumption | fail); have g2 : ¬ u = 3 := (by first | assumption | fail); rw [cp, if_pos g1, if_pos g2] at st; (refine EndOK.val (.inr rfl) ?_; simp [zaI, zaf, zaw, Tryz.results53]); rw [hfn, st]; simp; done)
    | (have g1 : ¬ er = 0 := (by first | assumption | fail); rw [cp, if_neg g1] at st; (refine EndOK.val (.inr rfl) ?_; simp [zaI, zaf, zaw, Tryz.results53]); rw [hfn, st]; simp; done)
  ·have st := step (k := 3) (c := [99, 111, 118, 101, 114]) rfl hd
   have e1 := zd1 b.lets (zbB [99, 111, 118, 101, 114]) b.cover
   have hlk := zd7 [99, 111, 118, 101, 114]
   rw [if_pos (by simp [clausesL])] at hlk
   have cp : zfs b [99, 111, 118, 101, 114] = if (zdm b.lets (zbB [99, 111, 118, 101, 114]) b.cover).2 = 0 then (if (zdm b.lets (zbB [99, 111, 118, 101, 114]) b.cover).1 ≠ 3 then some ([99, 111, 118, 101, 114], 14) else none) else some ([99, 111, 118, 101, 114], (zdm b.lets (zbB [99, 111, 118, 101, 114]) b.cover).2) := rfl
   generalize zdm b.lets (zbB [99, 111, 118, 101, 114]) b.cover = r at e1 cp
   obtain ⟨u, er⟩ := r
   simp only [zes, zeO] at e1
   simp only at cp
   have hcl : clausesL[3]? = some [99, 111, 118, 101, 114] := rfl
   repeat' (first
  | ((first | refine zag ?_ | refine zbU ?_ | refine zak ?_ | fail); simp [hlk, hcl, zek])
  | (refine ⟨by omega, ?_⟩)
  | ((first | refine zah ?_ | refine zai ?_ | fail); simp [hlk, hcl, zek])
  | (refine zcI ?_)
  | (refine hk _ ?_; clear hk k; simp only [zao])
  | (refine zbT rfl (by kernel_rfl) (by kernel_rfl) fun k hk => ?_; simp [hlk, hcl, zek])
  | (refine zat ?_; simp [hlk, hcl, zek])
  | ((first | refine zau ?_ | refine zar ?_ | fail); simp only [zao])
  | (refine ⟨?_, by omega⟩)
  | (refine ⟨fun hc => ?_, fun hc => ?_⟩ <;> (try (exfalso; omega)))
  | (intro hc <;> (try (exfalso; omega)))
  | (refine CallV.fun_ (e1) (by first | rfl | fail) (by first | simp [hlk, hcl, zek] <;> rfl | fail) ?_ <;> (try simp [hlk, hcl, zek]))
  | fail)
   all_goals first
    | (have g1 : er = 0 := (by first | assumption | fail); have g2 : u = 3 := (by first | assumption | fail); rw [cp, if_pos g1, if_neg (by simp [g2])] at st; refine LoopW.next ⟨3 + 1, by omega, st⟩ (by simp) ?_; exact (Wk.cut rfl (by simp [hn, St.lp]) (by simp [wkO, St.lp, zaa, getK, Ob.under, D.under, zad, zae]) (by simp [wkU, St.lp, zal, zaa, getK, D.under]) (by simp [wkE, St.lp, zal, zaa, getK] <;> (try (intros; simp_all; done)) <;> (try (intros; omega)) <;> (try grind))))
    | (have g1 : er = 0 := (by first | assumption | fail); have g2 : ¬ u = 3 := (by first | assumption | fail); rw [cp, if_pos g1, if_pos g2] at st; (refine EndOK.val (.inr rfl) ?_; simp [zaI, zaf, zaw, Tryz.results53]); rw [hfn, st]; simp; done)
    | (have g1 : ¬ er = 0 := (by first | assumption | fail); rw [cp, if_neg g1] at st; (refine EndOK.val (.inr rfl) ?_; simp [zaI, zaf, zaw, Tryz.results53]); rw [hfn, st]; simp; done)
  ·have st := step (k := 4) (c := [104, 111, 108, 100]) rfl hd
   have e1 := zd1 b.lets (zbB [104, 111, 108, 100]) b.hold
   have hlk := zd7 [104, 111, 108, 100]
   rw [if_pos (by simp [clausesL])] at hlk
   have cp : zfs b [104, 111, 108, 100] = if (zdm b.lets (zbB [104, 111, 108, 100]) b.hold).2 = 0 then (if (zdm b.lets (zbB [104, 111, 108, 100]) b.hold).1 ≠ 3 then some ([104, 111, 108, 100], 14) else none) else some ([104, 111, 108, 100], (zdm b.lets (zbB [104, 111, 108, 100]) b.hold).2) := rfl
   generalize zdm b.lets (zbB [104, 111, 108, 100]) b.hold = r at e1 cp
   obtain ⟨u, er⟩ := r
   simp only [zes, zeO] at e1
   simp only at cp
   have hcl : clausesL[4]? = some [104, 111, 108, 100] := rfl
   repeat' (first
  | ((first | refine zag ?_ | refine zbU ?_ | refine zak ?_ | fail); simp [hlk, hcl, zek])
  | (refine ⟨by omega, ?_⟩)
  | ((first | refine zah ?_ | refine zai ?_ | fail); simp [hlk, hcl, zek])
  | (refine zcI ?_)
  | (refine hk _ ?_; clear hk k; simp only [zao])
  | (refine zbT rfl (by kernel_rfl) (by kernel_rfl) fun k hk => ?_; simp [hlk, hcl, zek])
  | (refine zat ?_; simp [hlk, hcl, zek])
  | ((first | refine zau ?_ | refine zar ?_ | fail); simp only [zao])
  | (refine ⟨?_, by omega⟩)
  | (refine ⟨fun hc => ?_, fun hc => ?_⟩ <;> (try (exfalso; omega)))
  | (intro hc <;> (try (exfalso; omega)))
  | (refine CallV.fun_ (e1) (by first | rfl | fail) (by first | simp [hlk, hcl, zek] <;> rfl | fail) ?_ <;> (try simp [hlk, hcl, zek]))
  | fail)
   all_goals first
    | (have g1 : er = 0 := (by first | assumption | fail); have g2 : u = 3 := (by first | assumption | fail); rw [cp, if_pos g1, if_neg (by simp [g2])] at st; refine LoopW.next ⟨4 + 1, by omega, st⟩ (by simp) ?_; exact (Wk.cut rfl (by simp [hn, St.lp]) (by simp [wkO, St.lp, zaa, getK, Ob.under, D.under, zad, zae]) (by simp [wkU, St.lp, zal, zaa, getK, D.under]) (by simp [wkE, St.lp, zal, zaa, getK] <;> (try (intros; simp_all; done)) <;> (try (intros; omega)) <;> (try grind))))
    | (have g1 : er = 0 := (by first | assumption | fail); have g2 : ¬ u = 3 := (by first | assumption | fail); rw [cp, if_pos g1, if_pos g2] at st; (refine EndOK.val (.inr rfl) ?_; simp [zaI, zaf, zaw, Tryz.results53]); rw [hfn, st]; simp; done)
    | (have g1 : ¬ er = 0 := (by first | assumption | fail); rw [cp, if_neg g1] at st; (refine EndOK.val (.inr rfl) ?_; simp [zaI, zaf, zaw, Tryz.results53]); rw [hfn, st]; simp; done)
  ·have hend : zd0 b clausesL = ([], 0) := by rw [hd]; rfl
   repeat' (first
  | ((first | refine zag ?_ | refine zak ?_ | refine zah ?_ | fail); simp)
  | (refine zau ?_; simp only [zao])
  | (refine za9 ?_; simp [zao])
  | fail)
   (refine EndOK.val (.inr rfl) ?_; simp [zaI, zaf, zaw, Tryz.results53])
   rw [hfn, hend]
   simp
 ·have hlt : i < b.lets.length := (lGE.1 hx).1
  have hfa := fun h => zqM (p := fun l : Let => zgs l.name) hb hx h
  repeat' (first
  | ((first | refine zag ?_ | refine zak ?_ | refine zah ?_ | refine zaA ?_ | fail); simp [hx])
  | (refine zar ?_; simp only [zao])
  | (refine ⟨?_, by omega⟩)
  | (intro hc <;> (try (exfalso; omega)))
  | fail)
  refine zcn (α := { q : List (Key × List U) × Option (Key × List U) // (∀ p ∈ q.1, ∃ c ∈ clausesL, p = zmH c) ∧ ∀ c ∈ clausesL, zmH c ∈ q.1 ∨ ((zbB c).any fun v => decide (v.name = l.name)) = false }) [1, 4, 5, 22, 23, 24, 7, 29] (fun q => [])
   (fun q => [(2, .it .s false zij q.1.1 q.1.2), (1, .box [.u (.str l.name), .u (.int .i64 l.body.op), .u (.int .i64 l.body.n), .u (.int .i64 l.body.unit), .u (.str l.body.s), .u (.sl (l.body.args.map Exp.row))]), (0, .box ((zbr b).map .u))]) 3
   (fun q => q.1.1.length) ⟨(zij, none), ?_, ?_⟩ ?_ ?_
  ·intro p hp
   obtain ⟨c, hc, rfl⟩ := List.mem_map.1 hp
   exact ⟨c, hc, rfl⟩
  ·intro c hc
   exact .inl (List.mem_map.2 ⟨c, hc, rfl⟩)
  ·exact (Wk.cut rfl (by simp [hn, St.lp]) (by simp [wkO, St.lp, zaa, getK, Ob.under, D.under, zad, zae, zbr]) (by simp [wkU, St.lp, zal, zaa, getK, D.under, zbr]) (by simp [wkE, St.lp, zal, zaa, getK, zbr] <;> (try (intros; simp_all; done)) <;> (try (intros; omega)) <;> (try grind)))
  rintro ⟨⟨left, cur⟩, hq1, hq2⟩
  simp only at hq1 hq2
  simp [St.lp, St.only, zal, zaa, getK]
  simp only [zbr, List.map_cons, List.map_nil]
  repeat' (first
  | ((first | refine zag ?_ | refine zak ?_ | fail); simp [hx])
  | (refine ⟨by omega, ?_⟩)
  | ((first | refine zah ?_ | refine zaA ?_ | refine zat ?_ | fail); simp [hx])
  | (refine zar ?_; simp only [zao])
  | (refine za9 ?_; simp [zao])
  | (refine ⟨fun hc => ?_, fun hc => ?_⟩ <;> (try (exfalso; omega)))
  | (intro hc <;> (try (exfalso; omega)))
  | fail)
  ·have hno : zgs l.name = false := by
    unfold zgs
    rw [List.any_eq_false]
    intro c hc1
    rcases hq2 c hc1 with h | h
    ·(rw [hc] at h; cases h)
    ·simp only [h]; simp
   refine LoopW.next ⟨i + 1, by omega, zaY hx hb hno⟩ (by simp; omega) ?_
   exact (Wk.cut rfl (by simp [hn, St.lp]) (by simp [wkO, St.lp, zaa, getK, Ob.under, D.under, zad, zae]) (by simp [wkU, St.lp, zal, zaa, getK, D.under]) (by simp [wkE, St.lp, zal, zaa, getK] <;> (try (intros; simp_all; done)) <;> (try (intros; omega)) <;> (try grind)))
  ·rename_i l1 pk pv l2
   have hl : left = l1 ++ (pk, pv) :: l2 := hc
   obtain ⟨c, hc1, hpc⟩ := hq1 (pk, pv) (by rw [hl]; simp)
   simp only [zmH, Prod.mk.injEq] at hpc
   obtain ⟨rfl, rfl⟩ := hpc
   have hvn := zi8 (zbB c) 109 [U.row (zgr l) 0] _ (fun v _ => zip v l) (by simp) (fun _ => rfl) (fun _ => rfl)
   simp only [zgr, List.map_cons, List.map_nil] at hvn
   cases hany : ((zbB c).any fun v => decide (v.name = l.name))
   all_goals
    rw [hany] at hvn
    try simp only [zmH]
    try simp
    repeat' (first
  | ((first | refine zag ?_ | refine zak ?_ | refine zah ?_ | refine zai ?_ | fail); simp [hx])
  | ((first | refine zau ?_ | refine zar ?_ | fail); simp only [zao])
  | (refine CallP.fE (hvn) (by first | rfl | fail) (by first | simp [hx] <;> rfl | fail) ?_; (try simp [hx]))
  | fail)
   ·refine LoopW.next ⟨(l1 ++ l2, some (zmH c)), ?_, ?_⟩ ?_ ?_
    ·intro p hp
     exact hq1 p (by rw [hl]; simp at hp ⊢; rcases hp with h | h <;> simp [h])
    ·intro c' hc'
     rcases hq2 c' hc' with h | h
     ·rw [hl] at h
      simp only [List.mem_append, List.mem_cons] at h
      rcases h with h | h | h
      ·exact .inl (List.mem_append.2 (.inl h))
      ·have : c' = c := by simp [zmH] at h; exact h.1
       subst this
       exact .inr hany
      ·exact .inl (List.mem_append.2 (.inr h))
     ·exact .inr h
    ·first | (simp [hl]; done) | (simp [hl]; omega)
    ·exact (Wk.cut rfl (by simp [hn, St.lp]) (by simp [wkO, St.lp, zaa, getK, Ob.under, D.under, zad, zae, zmH]) (by simp [wkU, St.lp, zal, zaa, getK, D.under, zmH]) (by simp [wkE, St.lp, zal, zaa, getK, zmH] <;> (try (intros; simp_all; done)) <;> (try (intros; omega)) <;> (try grind)))
   ·(refine EndOK.val (.inr rfl) ?_; simp [zaI, zaf, zaw, Tryz.results53])
    have hyes : zgs l.name = true := by
      unfold zgs
      rw [List.any_eq_true]
      exact ⟨c, hc1, hany⟩
    rw [hfa hyes]
    simp
theorem zol (c : UInt8) : Fun Tryz.prog 198 [.u (.int .u8 c.toNat)] (· = .u (.bool (zcd c))) := by
 unfold zcd
 (refine Fun.of_body Tryz.func198 rfl (by simp) fun Γ hn => ?_); simp only [entry, ziC, ziN, maC, maN, oA, Tryz.ntmps198]
 repeat' (first
  | ((first | refine zag ?_ | refine zak ?_ | refine zah ?_ | fail); simp)
  | (refine zau ?_; simp only [zao])
  | (refine ⟨fun hc => ?_, fun hc => ?_⟩ <;> (try (exfalso; omega)))
  | fail)
 all_goals
  (refine EndOK.val (.inr rfl) ?_; simp [zaI, zaf, zaw, Tryz.results198])
 all_goals first | omega | (rw [Bool.eq_iff_iff]; simp; omega) | (simp; omega)
theorem zno (c : UInt8) : Fun Tryz.prog 244 [.u (.int .u8 c.toNat)] (· = .u (.bool (zdf c))) := by
 unfold zdf
 (refine Fun.of_body Tryz.func244 rfl (by simp) fun Γ hn => ?_); simp only [entry, ziC, ziN, maC, maN, oA, Tryz.ntmps244]
 repeat' (first
  | ((first | refine zag ?_ | refine zak ?_ | refine zah ?_ | fail); simp)
  | (refine zau ?_; simp only [zao])
  | (refine ⟨fun hc => ?_, fun hc => ?_⟩ <;> (try (exfalso; omega)))
  | (refine CallP.fE (zd8 c) (by first | rfl | fail) (by first | (simp; done) | (simp; rfl) | fail) ?_; (try simp))
  | (refine CallP.fE (zeX c) (by first | rfl | fail) (by first | (simp; done) | (simp; rfl) | fail) ?_; (try simp))
  | fail)
 all_goals
  (refine EndOK.val (.inr rfl) ?_; simp [zaI, zaf, zaw, Tryz.results244])
 all_goals simp_all
theorem zdN (p : UInt8 → Bool) (l : List UInt8) : zcJ p l ≤ l.length := by
 unfold zcJ
 exact (List.takeWhile_sublist p).length_le
theorem zmW {p : UInt8 → Bool} {l : List UInt8} (h : zcJ p l = l.length) : ∀ c ∈ l, p c = true := by
 have : l.takeWhile p = l := (List.takeWhile_sublist p).eq_of_length h
 intro c hc
 rw [← this] at hc
 exact List.all_eq_true.1 (List.all_takeWhile (l := l) (p := p)) c hc
theorem zl6 (s : List UInt8) (hl : s.length ≤ 1000000) : Fun Tryz.prog 245 [.u (.str s)] (· = .tup [.u (.int .i64 ((zf5 s).getD 0)), .u (.bool (zf5 s).isSome)]) := by
 have hsp := zfD s hl 222 zbv (fun c _ => zeX c) (by simp)
 unfold zf5
 cases s with
 | nil =>
  (refine Fun.of_body Tryz.func245 rfl (by simp) fun Γ hn => ?_); simp only [entry, ziC, ziN, maC, maN, oA, Tryz.ntmps245]
  repeat' (first
  | ((first | refine zag ?_ | refine zak ?_ | refine zah ?_ | refine zai ?_ | fail); simp)
  | (refine zau ?_; simp only [zao])
  | fail)
  all_goals
   (refine EndOK.val (.inr rfl) ?_; simp [zaI, zaf, zaw, Tryz.results245])
 | cons c s =>
  by_cases h1 : zcJ zbv (c :: s) = (c :: s).length
  case neg =>
   rw [if_pos (.inr (.inl h1))]
   have h1' : ¬ (zcJ zbv (c :: s) : Int) = s.length + 1 := by simp at h1; omega
   (refine Fun.of_body Tryz.func245 rfl (by simp) fun Γ hn => ?_); simp only [entry, ziC, ziN, maC, maN, oA, Tryz.ntmps245]
   repeat' (first
  | ((first | refine zag ?_ | refine zak ?_ | refine zah ?_ | refine zai ?_ | fail); simp [h1'])
  | (refine zau ?_; simp only [zao])
  | (refine CallP.fE (hsp) (by first | rfl | fail) (by first | simp [h1'] <;> rfl | fail) ?_; (try simp [h1']))
  | fail)
   all_goals
    (refine EndOK.val (.inr rfl) ?_; simp [zaI, zaf, zaw, Tryz.results245])
  have h1' : (zcJ zbv (c :: s) : Int) = s.length + 1 := by simp at h1; omega
  by_cases h2 : c.toNat = 48 ∧ s ≠ []
  ·rw [if_pos (.inr (.inr (.inl ⟨by have := h2.1; simp; exact UInt8.toNat_inj.1 this, by simp; intro _; exact h2.2⟩)))]
   have h2b := h2.1
   have h2a := h2.2
   (refine Fun.of_body Tryz.func245 rfl (by simp) fun Γ hn => ?_); simp only [entry, ziC, ziN, maC, maN, oA, Tryz.ntmps245]
   repeat' (first
  | ((first | refine zag ?_ | refine zak ?_ | refine zah ?_ | refine zai ?_ | fail); simp [h1', h2a, h2b])
  | (refine zau ?_; simp only [zao])
  | (refine CallP.fE (hsp) (by first | rfl | fail) (by first | simp [h1', h2a, h2b] <;> rfl | fail) ?_; (try simp [h1', h2a, h2b]))
  | fail)
   all_goals
    (refine EndOK.val (.inr rfl) ?_; simp [zaI, zaf, zaw, Tryz.results245])
  have h2' : c.toNat = 48 → s = [] := fun h => by
   by_cases hs : s = []
   ·exact hs
   ·exact absurd ⟨h, hs⟩ h2
  by_cases h3 : 13 < (c :: s).length
  ·rw [if_pos (.inr (.inr (.inr h3)))]
   have h3' : 13 < (s.length : Int) + 1 := by simp at h3; omega
   have hne : s ≠ [] := fun e => by rw [e] at h3; simp at h3
   have h2'' : ¬ c.toNat = 48 := fun h => hne (h2' h)
   (refine Fun.of_body Tryz.func245 rfl (by simp) fun Γ hn => ?_); simp only [entry, ziC, ziN, maC, maN, oA, Tryz.ntmps245]
   repeat' (first
  | ((first | refine zag ?_ | refine zak ?_ | fail); simp [h1', h2'', h3'])
  | (refine ⟨by omega, ?_⟩)
  | ((first | refine zah ?_ | refine zai ?_ | fail); simp [h1', h2'', h3'])
  | (refine zau ?_; simp only [zao])
  | (intro hc <;> (try (exfalso; omega)))
  | (refine CallP.fE (hsp) (by first | rfl | fail) (by first | simp [h1', h2'', h3'] <;> rfl | fail) ?_; (try simp [h1', h2'', h3']))
  | fail)
   all_goals
    (refine EndOK.val (.inr rfl) ?_; simp [zaI, zaf, zaw, Tryz.results245])
  have hall := zmW h1
  rw [if_neg (by
   simp only [not_or]
   refine ⟨by simp, fun h => h h1, fun h => ?_, h3⟩
   have hc48 : c = 48 := by have := h.1; simpa using this
   have := h2' (by rw [hc48]; rfl)
   rw [this, hc48] at h
   exact h.2 rfl)]
  have h3' : ¬ 13 < (s.length : Int) + 1 := by simp at h3; omega
  have hval : ∀ k, k ≤ (c :: s).length → 0 ≤ zbq ((c :: s).take k) ∧ zbq ((c :: s).take k) < 10 ^ 13 := fun k hk => by
   have h4 := zfQ k ((c :: s).take k) (by simp; simp at hk; omega) (fun x hx => hall x (List.mem_of_mem_take hx))
   have : (10 : Int) ^ k ≤ 10 ^ 13 := by
    have := Nat.pow_le_pow_right (n := 10) (by omega) (show k ≤ 13 by simp at h3 hk; omega)
    exact_mod_cast this
   omega
  have hloop : ∀ (hw : c.toNat = 48 → s = []), Fun Tryz.prog 245 [.u (.str (c :: s))] (· = .tup [.u (.int .i64 ((if 1099511627776 < zbq (c :: s) then none else some (zbq (c :: s)) : Option Int).getD 0)), .u (.bool (if 1099511627776 < zbq (c :: s) then none else some (zbq (c :: s)) : Option Int).isSome)]) := fun hw => by
   by_cases h48 : c.toNat = 48
   ·have h48' : (c.toNat : Int) = 48 := by omega
    have hc48 : (c = 48) = True := eq_true (UInt8.toNat_inj.1 h48)
    have hs0 : (s = []) = True := eq_true (hw h48)
    (refine Fun.of_body Tryz.func245 rfl (by simp) fun Γ hn => ?_); simp only [entry, ziC, ziN, maC, maN, oA, Tryz.ntmps245]
    repeat' (first
  | ((first | refine zag ?_ | refine zak ?_ | refine zah ?_ | refine zai ?_ | refine zaA ?_ | fail); simp [h1', h3', h48', hc48, hs0])
  | (refine zar ?_; simp only [zao])
  | (refine CallP.fE (hsp) (by first | rfl | fail) (by first | simp [h1', h3', h48', hc48, hs0] <;> rfl | fail) ?_; (try simp [h1', h3', h48', hc48, hs0]))
  | fail)
    refine zbS (α := { i : Nat // i ≤ (c :: s).length }) [0, 30] (fun i => [(4, .u (.int .i64 (zbq ((c :: s).take i.1)))), (31, .u (.int .i64 i.1))]) (fun i => (c :: s).length - i.1) ⟨0, by omega⟩ ?_ ?_
    ·exact (Wk.cut rfl (by simp [hn, St.lp]) (by simp [wkO, St.lp, zaa, getK, Ob.under, D.under, zad, zae, zbq]) (by simp [wkU, St.lp, zal, zaa, getK, D.under, zbq]) (by simp [wkE, St.lp, zal, zaa, getK, zbq] <;> (try (intros; simp_all; done)) <;> (try (intros; omega)) <;> (try grind)))
    rintro ⟨i, hi⟩
    simp [St.lp, St.only, zal, zaa, getK]
    rcases hx : (c :: s)[i]? with _ | a
    ·have hge : (c :: s).length ≤ i := by simpa using hx
     obtain rfl : i = (c :: s).length := by omega
     rw [List.take_length]
     have hge2 : ¬ ((c :: s).length : Int) < s.length + 1 := by simp
     by_cases hb : 1099511627776 < zbq (c :: s)
     ·repeat' (first
  | ((first | refine zag ?_ | refine zak ?_ | refine zah ?_ | refine zai ?_ | fail); simp [hb, hge2])
  | (refine zau ?_; simp only [zao])
  | (refine za9 ?_; simp [zao])
  | fail)
      (refine EndOK.val (.inr rfl) ?_; simp [zaI, zaf, zaw, Tryz.results245])
      try simp [hb]
     ·repeat' (first
  | ((first | refine zag ?_ | refine zak ?_ | refine zah ?_ | refine zai ?_ | fail); simp [hb, hge2])
  | ((first | refine zau ?_ | refine zar ?_ | fail); simp only [zao])
  | (refine za9 ?_; simp [zao])
  | fail)
      (refine EndOK.val (.inr rfl) ?_; simp [zaI, zaf, zaw, Tryz.results245])
      try simp [hb]
    ·have hlt : i < (c :: s).length := (lGE.1 hx).1
     have hlt2 : (i : Int) < s.length + 1 := by simp at hlt; omega
     have hd := hall a (List.mem_of_getElem? hx)
     simp only [zbv, Bool.and_eq_true, decide_eq_true_eq] at hd
     have hv := hval i hi
     have hv2 := hval (i + 1) hlt
     have hsn : zbq ((c :: s).take (i + 1)) = 10 * zbq ((c :: s).take i) + ((a.toNat : Int) - 48) := by
      rw [List.take_succ, hx]; exact zeW _ _
     generalize zbq ((c :: s).take i) = dv at hv hsn
     have hsn2 := hsn.symm
     repeat' (first
  | ((first | refine zag ?_ | refine zak ?_ | fail); simp [hx, hlt2, hsn2])
  | (refine ⟨by omega, ?_⟩)
  | ((first | refine zah ?_ | refine zat ?_ | fail); simp [hx, hlt2, hsn2])
  | (refine zar ?_; simp only [zao])
  | fail)
     refine LoopW.next ⟨i + 1, hlt⟩ (by simp at hlt; simp; omega) ?_
     exact (Wk.cut rfl (by simp [hn, St.lp]) (by simp [wkO, St.lp, zaa, getK, Ob.under, D.under, zad, zae, hsn]) (by simp [wkU, St.lp, zal, zaa, getK, D.under, hsn]) (by simp [wkE, St.lp, zal, zaa, getK, hsn] <;> (try (intros; simp_all; done)) <;> (try (intros; omega)) <;> (try grind)))
   ·(refine Fun.of_body Tryz.func245 rfl (by simp) fun Γ hn => ?_); simp only [entry, ziC, ziN, maC, maN, oA, Tryz.ntmps245]
    repeat' (first
  | ((first | refine zag ?_ | refine zak ?_ | fail); simp [h1', h3', h48])
  | (refine ⟨by omega, ?_⟩)
  | ((first | refine zah ?_ | refine zai ?_ | refine zaA ?_ | fail); simp [h1', h3', h48])
  | (refine zar ?_; simp only [zao])
  | (intro hc <;> (try (exfalso; omega)))
  | (refine CallP.fE (hsp) (by first | rfl | fail) (by first | simp [h1', h3', h48] <;> rfl | fail) ?_; (try simp [h1', h3', h48]))
  | fail)
    refine zbS (α := { i : Nat // i ≤ (c :: s).length }) [0, 30] (fun i => [(4, .u (.int .i64 (zbq ((c :: s).take i.1)))), (31, .u (.int .i64 i.1))]) (fun i => (c :: s).length - i.1) ⟨0, by omega⟩ ?_ ?_
    ·exact (Wk.cut rfl (by simp [hn, St.lp]) (by simp [wkO, St.lp, zaa, getK, Ob.under, D.under, zad, zae, zbq]) (by simp [wkU, St.lp, zal, zaa, getK, D.under, zbq]) (by simp [wkE, St.lp, zal, zaa, getK, zbq] <;> (try (intros; simp_all; done)) <;> (try (intros; omega)) <;> (try grind)))
    rintro ⟨i, hi⟩
    simp [St.lp, St.only, zal, zaa, getK]
    rcases hx : (c :: s)[i]? with _ | a
    ·have hge : (c :: s).length ≤ i := by simpa using hx
     obtain rfl : i = (c :: s).length := by omega
     rw [List.take_length]
     have hge2 : ¬ ((c :: s).length : Int) < s.length + 1 := by simp
     by_cases hb : 1099511627776 < zbq (c :: s)
     ·repeat' (first
  | ((first | refine zag ?_ | refine zak ?_ | refine zah ?_ | refine zai ?_ | fail); simp [hb, hge2])
  | (refine zau ?_; simp only [zao])
  | (refine za9 ?_; simp [zao])
  | fail)
      (refine EndOK.val (.inr rfl) ?_; simp [zaI, zaf, zaw, Tryz.results245])
      try simp [hb]
     ·repeat' (first
  | ((first | refine zag ?_ | refine zak ?_ | refine zah ?_ | refine zai ?_ | fail); simp [hb, hge2])
  | ((first | refine zau ?_ | refine zar ?_ | fail); simp only [zao])
  | (refine za9 ?_; simp [zao])
  | fail)
      (refine EndOK.val (.inr rfl) ?_; simp [zaI, zaf, zaw, Tryz.results245])
      try simp [hb]
    ·have hlt : i < (c :: s).length := (lGE.1 hx).1
     have hlt2 : (i : Int) < s.length + 1 := by simp at hlt; omega
     have hd := hall a (List.mem_of_getElem? hx)
     simp only [zbv, Bool.and_eq_true, decide_eq_true_eq] at hd
     have hv := hval i hi
     have hv2 := hval (i + 1) hlt
     have hsn : zbq ((c :: s).take (i + 1)) = 10 * zbq ((c :: s).take i) + ((a.toNat : Int) - 48) := by
      rw [List.take_succ, hx]; exact zeW _ _
     generalize zbq ((c :: s).take i) = dv at hv hsn
     have hsn2 := hsn.symm
     repeat' (first
  | ((first | refine zag ?_ | refine zak ?_ | fail); simp [hx, hlt2, hsn2])
  | (refine ⟨by omega, ?_⟩)
  | ((first | refine zah ?_ | refine zat ?_ | fail); simp [hx, hlt2, hsn2])
  | (refine zar ?_; simp only [zao])
  | fail)
     refine LoopW.next ⟨i + 1, hlt⟩ (by simp at hlt; simp; omega) ?_
     exact (Wk.cut rfl (by simp [hn, St.lp]) (by simp [wkO, St.lp, zaa, getK, Ob.under, D.under, zad, zae, hsn]) (by simp [wkU, St.lp, zal, zaa, getK, D.under, hsn]) (by simp [wkE, St.lp, zal, zaa, getK, hsn] <;> (try (intros; simp_all; done)) <;> (try (intros; omega)) <;> (try grind)))
  exact hloop h2'
theorem zkI (s p : List UInt8) : Fun Tryz.prog 282 [.u (.str s), .u (.str p)] (· = .u (.bool (p.isPrefixOf s))) := by
 by_cases hl : p.length ≤ s.length
 ·have hl2 : (p.length : Int) ≤ s.length := by omega
  by_cases he : s.take p.length = p
  ·have hp : p.isPrefixOf s = true := List.isPrefixOf_iff_prefix.2 (List.prefix_iff_eq_take.2 he.symm)
   (refine Fun.of_body Tryz.func282 rfl (by simp) fun Γ hn => ?_); simp only [entry, ziC, ziN, maC, maN, oA, Tryz.ntmps282]
   repeat' (first
  | ((first | refine zag ?_ | refine zak ?_ | refine zah ?_ | fail); simp [hl, hl2, he])
  | (refine zau ?_; simp only [zao])
  | fail)
   all_goals
    (refine EndOK.val (.inr rfl) ?_; simp [zaI, zaf, zaw, Tryz.results282])
   all_goals first | (rw [hp]; done) | exact List.isPrefixOf_iff_prefix.1 hp | (simp [hp]; done) | rfl
  ·have hp : p.isPrefixOf s = false := by
    cases h : p.isPrefixOf s with
    | false => rfl
    | true => exact absurd (List.prefix_iff_eq_take.1 (List.isPrefixOf_iff_prefix.1 h)).symm he
   (refine Fun.of_body Tryz.func282 rfl (by simp) fun Γ hn => ?_); simp only [entry, ziC, ziN, maC, maN, oA, Tryz.ntmps282]
   repeat' (first
  | ((first | refine zag ?_ | refine zak ?_ | refine zah ?_ | fail); simp [hl, hl2, he])
  | (refine zau ?_; simp only [zao])
  | fail)
   all_goals
    (refine EndOK.val (.inr rfl) ?_; simp [zaI, zaf, zaw, Tryz.results282])
   all_goals first | (rw [hp]; done) | exact List.isPrefixOf_iff_prefix.1 hp | (simp [hp]; done) | rfl
 ·have hl2 : ¬ (p.length : Int) ≤ s.length := by omega
  have hp : p.isPrefixOf s = false := by
   cases h : p.isPrefixOf s with
   | false => rfl
   | true => exact absurd (List.isPrefixOf_iff_prefix.1 h).length_le hl
  (refine Fun.of_body Tryz.func282 rfl (by simp) fun Γ hn => ?_); simp only [entry, ziC, ziN, maC, maN, oA, Tryz.ntmps282]
  repeat' (first
  | ((first | refine zag ?_ | refine zak ?_ | refine zah ?_ | fail); simp [hl, hl2])
  | (refine zau ?_; simp only [zao])
  | fail)
  all_goals
   (refine EndOK.val (.inr rfl) ?_; simp [zaI, zaf, zaw, Tryz.results282])
  all_goals first | (rw [hp]; done) | exact List.isPrefixOf_iff_prefix.1 hp | (simp [hp]; done) | rfl
theorem zl0 (s p : List UInt8) : Fun Tryz.prog 246 [.u (.str s), .u (.str p)] (· = .u (.bool (p.isPrefixOf s))) := by
 have h := zkI s p
 (refine Fun.of_body Tryz.func246 rfl (by simp) fun Γ hn => ?_); simp only [entry, ziC, ziN, maC, maN, oA, Tryz.ntmps246]
 repeat' (first
  | ((first | refine zag ?_ | refine zak ?_ | refine zah ?_ | fail); simp)
  | (refine zau ?_; simp only [zao])
  | (refine CallP.fE (h) (by first | rfl | fail) (by first | (simp; done) | (simp; rfl) | fail) ?_; (try simp))
  | fail)
 (refine EndOK.val (.inr rfl) ?_; simp [zaI, zaf, zaw, Tryz.results246])
@[local simp] theorem zru : zn5 1 = .u (.row (signsL.map .str) 0) := by
 simp [zn5, globs, signsL, uOf]
theorem hsl : signsL.length = 11 := rfl
theorem zoX (s : List UInt8) (hs : s ≠ []) (hl : s.length ≤ 1000000) : Fun Tryz.prog 199 [.u (.str s)] (· = nextD s) := by
 obtain ⟨c, r, rfl⟩ : ∃ c r, s = c :: r := by cases s with | nil => exact absurd rfl hs | cons c r => exact ⟨c, r, rfl⟩
 have h1 := zd8 c
 have h2 := zeX c
 have h3 := zfD (c :: r) hl 244 zdf (fun c _ => zno c) (by simp)
 have h4 := zfD (c :: r) hl 222 zbv (fun c _ => zeX c) (by simp)
 have h5 := zla ((c :: r).take (zcJ zdf (c :: r)))
 have h6 := zl6 ((c :: r).take (zcJ zbv (c :: r))) (by have := zdN zbv (c :: r); rw [List.length_take]; omega)
 have l1 : (zcJ zdf (c :: r) : Int) ≤ r.length + 1 := by have := zdN zdf (c :: r); simp at this; omega
 have l2 : (zcJ zbv (c :: r) : Int) ≤ r.length + 1 := by have := zdN zbv (c :: r); simp at this; omega
 have l1' : zcJ zdf (c :: r) ≤ r.length + 1 := by omega
 have l2' : zcJ zbv (c :: r) ≤ r.length + 1 := by omega
 unfold nextD zhK
 cases c1 : zdk c with
 | true =>
  rw [c1] at h1
  cases c3 : zjj ((c :: r).take (zcJ zdf (c :: r))) with
  | true =>
   rw [c3] at h5
   (refine Fun.of_body Tryz.func199 rfl (by simp) fun Γ hn => ?_); simp only [entry, ziC, ziN, maC, maN, oA, Tryz.ntmps199]
   repeat' (first
  | ((first | refine zag ?_ | refine zak ?_ | refine zah ?_ | refine zai ?_ | fail); simp [l1, l1'])
  | ((first | refine zau ?_ | refine zar ?_ | fail); simp only [zao])
  | (refine CallP.fE (h1) (by first | rfl | fail) (by first | simp [l1, l1'] <;> rfl | fail) ?_; (try simp [l1, l1']))
  | (refine CallP.fE (h3) (by first | rfl | fail) (by first | simp [l1, l1'] <;> rfl | fail) ?_; (try simp [l1, l1']))
  | (refine CallP.fE (h5) (by first | rfl | fail) (by first | simp [l1, l1'] <;> rfl | fail) ?_; (try simp [l1, l1']))
  | fail)
   (refine EndOK.val (.inr rfl) ?_; simp [zaI, zaf, zaw, Tryz.results199])
   simp [c1, c3]
  | false =>
   rw [c3] at h5
   (refine Fun.of_body Tryz.func199 rfl (by simp) fun Γ hn => ?_); simp only [entry, ziC, ziN, maC, maN, oA, Tryz.ntmps199]
   repeat' (first
  | ((first | refine zag ?_ | refine zak ?_ | refine zah ?_ | refine zai ?_ | fail); simp [l1, l1'])
  | (refine zau ?_; simp only [zao])
  | (refine CallP.fE (h1) (by first | rfl | fail) (by first | simp [l1, l1'] <;> rfl | fail) ?_; (try simp [l1, l1']))
  | (refine CallP.fE (h3) (by first | rfl | fail) (by first | simp [l1, l1'] <;> rfl | fail) ?_; (try simp [l1, l1']))
  | (refine CallP.fE (h5) (by first | rfl | fail) (by first | simp [l1, l1'] <;> rfl | fail) ?_; (try simp [l1, l1']))
  | fail)
   (refine EndOK.val (.inr rfl) ?_; simp [zaI, zaf, zaw, Tryz.results199])
   simp [c1, c3]
 | false =>
  rw [c1] at h1
  cases c2 : zbv c with
  | true =>
   rw [c2] at h2
   cases c3 : zf5 ((c :: r).take (zcJ zbv (c :: r))) with
   | none =>
    rw [c3] at h6
    (refine Fun.of_body Tryz.func199 rfl (by simp) fun Γ hn => ?_); simp only [entry, ziC, ziN, maC, maN, oA, Tryz.ntmps199]
    repeat' (first
  | ((first | refine zag ?_ | refine zak ?_ | refine zah ?_ | refine zai ?_ | fail); simp [l2, l2'])
  | (refine zau ?_; simp only [zao])
  | (refine CallP.fE (h1) (by first | rfl | fail) (by first | simp [l2, l2'] <;> rfl | fail) ?_; (try simp [l2, l2']))
  | (refine CallP.fE (h2) (by first | rfl | fail) (by first | simp [l2, l2'] <;> rfl | fail) ?_; (try simp [l2, l2']))
  | (refine CallP.fE (h4) (by first | rfl | fail) (by first | simp [l2, l2'] <;> rfl | fail) ?_; (try simp [l2, l2']))
  | (refine CallP.fE (h6) (by first | rfl | fail) (by first | simp [l2, l2'] <;> rfl | fail) ?_; (try simp [l2, l2']))
  | fail)
    (refine EndOK.val (.inr rfl) ?_; simp [zaI, zaf, zaw, Tryz.results199])
    simp [c1, c2, c3]
   | some n =>
    rw [c3] at h6
    (refine Fun.of_body Tryz.func199 rfl (by simp) fun Γ hn => ?_); simp only [entry, ziC, ziN, maC, maN, oA, Tryz.ntmps199]
    repeat' (first
  | ((first | refine zag ?_ | refine zak ?_ | refine zah ?_ | refine zai ?_ | fail); simp [l2, l2'])
  | ((first | refine zau ?_ | refine zar ?_ | fail); simp only [zao])
  | (refine CallP.fE (h1) (by first | rfl | fail) (by first | simp [l2, l2'] <;> rfl | fail) ?_; (try simp [l2, l2']))
  | (refine CallP.fE (h2) (by first | rfl | fail) (by first | simp [l2, l2'] <;> rfl | fail) ?_; (try simp [l2, l2']))
  | (refine CallP.fE (h4) (by first | rfl | fail) (by first | simp [l2, l2'] <;> rfl | fail) ?_; (try simp [l2, l2']))
  | (refine CallP.fE (h6) (by first | rfl | fail) (by first | simp [l2, l2'] <;> rfl | fail) ?_; (try simp [l2, l2']))
  | fail)
    (refine EndOK.val (.inr rfl) ?_; simp [zaI, zaf, zaw, Tryz.results199])
    simp [c1, c2, c3]
  | false =>
   rw [c2] at h2
   (refine Fun.of_body Tryz.func199 rfl (by simp) fun Γ hn => ?_); simp only [entry, ziC, ziN, maC, maN, oA, Tryz.ntmps199]
   repeat' (first
  | ((first | refine zag ?_ | refine zak ?_ | refine zah ?_ | refine zai ?_ | refine zaA ?_ | fail); simp [hsl, List.take_of_length_le])
  | (refine zar ?_; simp only [zao])
  | (refine CallP.fE (h1) (by first | rfl | fail) (by first | simp [hsl, List.take_of_length_le] <;> rfl | fail) ?_; (try simp [hsl, List.take_of_length_le]))
  | (refine CallP.fE (h2) (by first | rfl | fail) (by first | simp [hsl, List.take_of_length_le] <;> rfl | fail) ?_; (try simp [hsl, List.take_of_length_le]))
  | fail)
   refine zbS (α := { i : Nat // i ≤ 11 ∧ ∀ x ∈ signsL.take i, x.isPrefixOf (c :: r) = false }) [0, 2, 3, 43] (fun i => [(44, .u (.int .i64 i.1))]) (fun i => 11 - i.1) ⟨0, by omega, by simp⟩ ?_ ?_
   ·exact (Wk.cut rfl (by simp [hn, St.lp]) (by simp [wkO, St.lp, zaa, getK, Ob.under, D.under, zad, zae]) (by simp [wkU, St.lp, zal, zaa, getK, D.under]) (by simp [wkE, St.lp, zal, zaa, getK] <;> (try (intros; simp_all; done)) <;> (try (intros; omega)) <;> (try grind)))
   rintro ⟨i, hi, hb⟩
   simp [St.lp, St.only, zal, zaa, getK]
   rcases hx : signsL[i]? with _ | x
   ·have hge : signsL.length ≤ i := by simpa using hx
    obtain rfl : i = 11 := by rw [hsl] at hge; omega
    have hnone : signsL.find? (fun x => x.isPrefixOf (c :: r)) = none := List.find?_eq_none.2 fun x hx => by
     rw [hb x (by rw [List.take_of_length_le (by rw [hsl]; omega)]; exact hx)]; simp
    repeat' (first
  | ((first | refine zag ?_ | refine zak ?_ | refine zah ?_ | fail); simp)
  | (refine zau ?_; simp only [zao])
  | (refine za9 ?_; simp [zao])
  | fail)
    (refine EndOK.val (.inr rfl) ?_; simp [zaI, zaf, zaw, Tryz.results199])
    simp [c1, c2, hnone]
   ·have hlt : i < 11 := by have := (lGE.1 hx).1; rw [hsl] at this; exact this
    have hlt2 : (i : Int) < 11 := by omega
    have hp := zl0 (c :: r) x
    by_cases hpx : x.isPrefixOf (c :: r) = true
    ·have hfind : signsL.find? (fun x => x.isPrefixOf (c :: r)) = some x := by
      have e : signsL = signsL.take i ++ x :: signsL.drop (i + 1) := by
       obtain ⟨h5, h6⟩ := lGE.1 hx
       rw [← h6, List.getElem_cons_drop, List.take_append_drop]
      rw [e, List.find?_append, List.find?_eq_none.2 (fun y hy => by rw [hb y hy]; simp), List.find?_cons, hpx]
      rfl
     rw [hpx] at hp
     repeat' (first
  | ((first | refine zag ?_ | refine zak ?_ | refine zah ?_ | refine zai ?_ | fail); simp [hx, hsl, hlt2])
  | ((first | refine zau ?_ | refine zar ?_ | fail); simp only [zao])
  | (refine CallP.fE (hp) (by first | rfl | fail) (by first | simp [hx, hsl, hlt2] <;> rfl | fail) ?_; (try simp [hx, hsl, hlt2]))
  | fail)
     (refine EndOK.val (.inr rfl) ?_; simp [zaI, zaf, zaw, Tryz.results199])
     simp [c1, c2, hfind]
    ·rw [Bool.eq_false_iff.2 hpx] at hp
     repeat' (first
  | ((first | refine zag ?_ | refine zak ?_ | fail); simp [hx, hsl, hlt2])
  | (refine ⟨by omega, ?_⟩)
  | ((first | refine zah ?_ | refine zai ?_ | refine zat ?_ | fail); simp [hx, hsl, hlt2])
  | (refine zar ?_; simp only [zao])
  | (refine CallP.fE (hp) (by first | rfl | fail) (by first | simp [hx, hsl, hlt2] <;> rfl | fail) ?_; (try simp [hx, hsl, hlt2]))
  | fail)
     refine LoopW.next ⟨i + 1, by omega, fun y hy => ?_⟩ (by simp; omega) ?_
     ·rw [List.take_succ, hx] at hy
      rcases List.mem_append.1 hy with h | h
      ·exact hb y h
      ·simp at h; subst h; exact Bool.eq_false_iff.2 hpx
     ·exact (Wk.cut rfl (by simp [hn, St.lp]) (by simp [wkO, St.lp, zaa, getK, Ob.under, D.under, zad, zae]) (by simp [wkU, St.lp, zal, zaa, getK, D.under]) (by simp [wkE, St.lp, zal, zaa, getK] <;> (try (intros; simp_all; done)) <;> (try (intros; omega)) <;> (try grind)))
end Go.Proofs.YtepiegcjnaohjaaGreatDoor
namespace Go.Proofs.YtepiegcjnaohjaaGreatDoor
open Go Go.VL
/-- The tokens of a string from a place on. -/
def znB : Nat → List UInt8 → Nat → Except (Nat × Int) (List Tok)
 | 0, _, _ => .ok []
 | f + 1, s, p =>
  match (s.drop (p + zcJ zcd (s.drop p))) with
  | [] => .ok [⟨0, [], 0, ((p + zcJ zcd (s.drop p) : Nat) : Int)⟩]
  | c :: r => match zhK (c :: r) with
   | .error e => .error (p + zcJ zcd (s.drop p), e)
   | .ok t => match znB f s (p + zcJ zcd (s.drop p) + t.text.length) with
    | .error x => .error x
    | .ok l => .ok ({ t with pos := ((p + zcJ zcd (s.drop p) : Nat) : Int) } :: l)
def zmG (s : List UInt8) : Except (Nat × Int) (List Tok) := if 2000 < s.length then .error (0, 6) else znB (s.length + 1) s 0
def zif : Except (Nat × Int) (List Tok) → D
 | .ok l => .tup [.u (.sl (l.map fun t => [.int .i64 t.kind, .str t.text, .int .i64 t.n, .int .i64 t.pos])), .u (.int .i64 0), .u (.int .i64 0)]
 | .error (p, e) => .tup [.u (.sl []), .u (.int .i64 p), .u (.int .i64 e)]
def zlZ (acc : List Tok) : Except (Nat × Int) (List Tok) → Except (Nat × Int) (List Tok)
 | .ok l => .ok (acc ++ l)
 | .error x => .error x
theorem zm7 (x) : zlZ [] x = x := by cases x <;> simp [zlZ]
theorem zjt {p : UInt8 → Bool} {c : UInt8} {r : List UInt8} (h : p c = true) : 0 < zcJ p (c :: r) := by
 unfold zcJ; rw [List.takeWhile_cons, if_pos h]; simp
theorem zf7 {s : List UInt8} {t : Tok} (h : zhK s = .ok t) : 0 < t.text.length ∧ t.text.length ≤ s.length := by
 unfold zhK at h
 split at h
 ·cases h
 ·rename_i c r
  by_cases c1 : zdk c = true
  ·rw [if_pos c1] at h
   split at h
   ·cases h
    have h1 := zjt (p := zdf) (c := c) (r := r) (by simp [zdf, c1])
    have h2 := zdN zdf (c :: r)
    simp only [List.length_take]
    omega
   ·cases h
  ·rw [if_neg c1] at h
   by_cases c2 : zbv c = true
   ·rw [if_pos c2] at h
    split at h
    ·cases h
     have h1 := zjt (p := zbv) (c := c) (r := r) c2
     have h2 := zdN zbv (c :: r)
     simp only [List.length_take]
     omega
    ·cases h
   ·rw [if_neg c2] at h
    split at h
    ·rename_i x hx
     cases h
     have h1 := List.find?_some hx
     have h2 := List.mem_of_find?_eq_some hx
     refine ⟨?_, (List.isPrefixOf_iff_prefix.1 h1).length_le⟩
     simp only [signsL, List.mem_cons, List.not_mem_nil, or_false] at h2
     rcases h2 with h | h | h | h | h | h | h | h | h | h | h <;> subst h <;> simp
    ·cases h
def ziG (l : List Tok) : List (List D) := l.map fun t => [.u (.int .i64 t.kind), .u (.str t.text), .u (.int .i64 t.n), .u (.int .i64 t.pos)]
theorem zcQ (l : List Tok) : (ziG l).length = l.length := by simp [ziG]
theorem zjq (l : List Tok) : rowsD (l.map fun t => [U.int .i64 t.kind, .str t.text, .int .i64 t.n, .int .i64 t.pos]) = ziG l := by simp [rowsD, ziG, Function.comp_def]
theorem zld (l : List Tok) : zb9 (ziG l) = some (l.map fun t => [U.int .i64 t.kind, .str t.text, .int .i64 t.n, .int .i64 t.pos]) := by rw [← zjq]; simp
theorem zg7 (l) : za4 (ziG l) = True := by rw [← zjq]; simp
theorem zfZ (n : Nat) (l) : (∀ x ∈ ziG l, ∀ y ∈ x, D.under n y = true) ↔ True := by
 refine ⟨fun _ => trivial, fun _ x hx y hy => ?_⟩
 obtain ⟨b, _, rfl⟩ := List.mem_map.1 hx
 simp at hy
 rcases hy with rfl | rfl | rfl | rfl <;> simp [D.under]
end Go.Proofs.YtepiegcjnaohjaaGreatDoor
namespace Go.Proofs.YtepiegcjnaohjaaGreatDoor
open Go Go.VL
abbrev zmV (l : List Tok) : U := .sl (l.map fun t => [.int .i64 t.kind, .str t.text, .int .i64 t.n, .int .i64 t.pos])
abbrev pOb (l : List Tok) (p : Nat) : Ob := .box [.u (zmV l), .u (.int .i64 p)]
abbrev zqa (l : List Tok) (p : Nat) : U := .row [zmV l, .int .i64 p] 0
/-- Tokens as Lex makes them: the end comes last, and nowhere else. -/
structure TokOK (l : List Tok) : Prop where
 fin : ∀ (i : Nat) (t : Tok), l[i]? = some t → t.kind ≠ 0 → i + 1 < l.length
 len : l.length ≤ 1000000
def isB (l : List Tok) (p : Nat) (w : List UInt8) : Bool := match l[p]? with | some t => decide (t.kind ≠ 0) && decide (t.text = w) | none => false
theorem zbm {l : List Tok} {p : Nat} {w : List UInt8} (hl : TokOK l) (h : isB l p w = true) : p + 1 < l.length := by
 unfold isB at h
 split at h
 ·rename_i t ht
  simp only [Bool.and_eq_true, decide_eq_true_eq] at h
  exact hl.fin p t ht h.1
 ·cases h
end Go.Proofs.YtepiegcjnaohjaaGreatDoor
namespace Go.Proofs.YtepiegcjnaohjaaGreatDoor
open Go Go.VL
open Df (Con)
def zk2 (b : By) : List Con := if zcX b = true then [⟨2, 0, b.period - 1⟩, ⟨0, 2, 1 - b.period⟩, ⟨1, 2, 1 - b.wait⟩, ⟨2, 1, b.wait - 1⟩, ⟨0, 1, 0⟩, ⟨3, 2, b.grace⟩, ⟨2, 3, -b.grace⟩, ⟨4, 2, b.period⟩, ⟨2, 4, -b.period⟩, ⟨3, 4, 0⟩] else []
def zoZ (n : Int) (c : Con) : Int := max (max n (c.A + 1)) (c.B + 1)
def zhL (l : List Con) : Int := l.foldl zoZ 0
theorem zid {l : List Con} {i : Nat} {c : Con} (h : l[i]? = some c) : zhL (l.take (i + 1)) = zoZ (zhL (l.take i)) c := by
 obtain ⟨hi, rfl⟩ := lGE.1 h
 rw [List.take_succ_eq_append_getElem hi, zhL, List.foldl_append]; rfl
theorem zhd {l : List Con} (h : ∀ c ∈ l, 0 ≤ c.A ∧ c.A ≤ 4 ∧ 0 ≤ c.B ∧ c.B ≤ 4) : ∀ i, i ≤ l.length → 0 ≤ zhL (l.take i) ∧ zhL (l.take i) ≤ 5
 | 0, _ => by simp [zhL]
 | i + 1, hi => by
  have ih := zhd h i (by omega)
  have hx : l[i]? = some l[i] := List.getElem?_eq_getElem (by omega)
  have hc := h _ (List.getElem_mem (show i < l.length by omega))
  rw [zid hx, zoZ]
  omega
theorem zpI (b : By) : ∀ c ∈ zk2 b, 0 ≤ c.A ∧ c.A ≤ 4 ∧ 0 ≤ c.B ∧ c.B ≤ 4 := by
 intro c hc
 unfold zk2 at hc
 split at hc
 ·simp only [List.mem_cons, List.mem_nil_iff, or_false] at hc
  rcases hc with rfl | rfl | rfl | rfl | rfl | rfl | rfl | rfl | rfl | rfl <;> simp
 ·cases hc
theorem zqU (b : By) : (zk2 b).length ≤ 10 := by unfold zk2; split <;> simp
theorem zpJ {b : By} (h : zcX b = true) : zhL (zk2 b) = 5 := by unfold zk2; rw [if_pos h]; rfl
end Go.Proofs.YtepiegcjnaohjaaGreatDoor
namespace Go.Proofs.YtepiegcjnaohjaaGreatDoor
open Go Go.VL
def zqE (l : List Lw) : List (List D) := l.map fun x => [.u (.int .i64 x.mark), .u (.int .i64 x.base), .u (.str x.text)]
theorem zpb (l : List Lw) : (zqE l).length = l.length := by simp [zqE]
theorem znN (l : List Lw) : rowsD (l.map fun x => [U.int .i64 x.mark, .int .i64 x.base, .str x.text]) = zqE l := by simp [rowsD, zqE, Function.comp_def]
theorem zpc (l : List Lw) : zb9 (zqE l) = some (l.map fun x => [U.int .i64 x.mark, .int .i64 x.base, .str x.text]) := by rw [← znN]; simp
def zkT (l : List Lw) (n : Int) : Bool := decide ((l.length : Int) ≤ n) && l.all fun x => decide (x.text.length ≤ 500)
theorem zn9 {l : List Lw} {n : Int} (h : zkT l n = true) : (l.length : Int) ≤ n ∧ ∀ x ∈ l, x.text.length ≤ 500 := by
 simp only [zkT, Bool.and_eq_true, decide_eq_true_eq, List.all_eq_true] at h
 exact h
end Go.Proofs.YtepiegcjnaohjaaGreatDoor
namespace Go.Proofs.YtepiegcjnaohjaaGreatDoor.Df
open Go Go.VL
attribute [local simp] HS zc8 zb5 evPure opd uOf zaG St.put St.at getK binD binI binS binB nilD aggD zgN zhG lookD lookR zcF Go.VL.nextD zcH zhM zhH zfY zb4 mkV zbl zbf zbe zbd zc5 za8 zbt zbG mapEff zdl zfy Key.kk shiftI arith unD convD zdL loadD cellsAt fieldAddrD fieldD indexAddrD indexD sliceD cutD lenD minmaxD nilCheckD buildD fillD zbY zdg ze1 setAll zcV zeA zcw zht zct St.add zaM zbP rowsOf zdG zcK zan zac zaa zbi zcN zaK entry zbE zbI valD zb8 zcg zgC zds zdt zb1 zbK zaz zaX zbz delAll effD St.effS zc6 zbg zaZ zc7 zbh za1 zch za0 zaT zci zcW zbL zcc zbs zca zcb zaR mkD zbk zbC zbQ zaz zcv D.ids Op.operands Call.operands zbu makeIfD makeFuncD typeAssertD zhF zdy zdz zhE zcG IntKind.bits zb9 zaS List.take_of_length_le List.range_succ
attribute [local irreducible] V G H HD HD2 HD4 zoD RetX zao Eff CallP CallV EndOK Fun Ret FinOK LoopI LoopW EndW
theorem ziS (m : Nat) (l : List Con) (bg : Nat → Bool) (begin_ : List Int) (hm : m ≤ 200) (hl : OkC m l) (hll : l.length ≤ 2000) (hbg : ∀ x, x ∈ begin_ ↔ 0 ≤ x ∧ x < m ∧ bg x.toNat = true) (hbl : begin_.length ≤ 1000) :
  Ret Tryz.prog 78 [.u (consU l), .u (.int .i64 m), .u (ints begin_)] [] 0 fun d obs nx' => d = .ptr 5 0 ∧ nx' = 6 ∧
   obs = [(5, .box [.u (consU l), .u (.sl ((List.range m).map fun v => [ints (zgz (zcz l v))])), .vec 1 m, .vec 3 m, .vec 4 m]), (1, .vec 3 1 (zbn (lst m (GS.zero bg).val))), (3, .vec 3 1 (zbn (lst m (zhI (-1) (GS.zero bg))))), (4, .vec 4 1 (zdh (bst m (GS.zero bg).kn)))] := by
 simp only [consU, ints]
 skip
 (refine Ret.of_bodyW Tryz.func78 rfl (by simp) fun Γ hn => ?_); simp only [entry, ziC, ziN, maC, maN, oA, Tryz.ntmps78]
 have k0 : zbn [-1] = [[D.u (.int .i64 (-1))]] := rfl
 repeat' (first
  | (refine zoE [(2, .vec 3 1 (zbn [-1]))] ⟨[], some (.vec 3 1 (zbn (List.replicate m (-1)))), .vec m⟩ (.vec 3 1 (zbn (List.replicate m (-1)))) (fun nx' h' => zoS 2 nx' m (-1) (by omega)) ⟨rfl, rfl⟩ (by rfl) (by first | assumption | (simp; done) | fail) (by rfl) (by first | (simp [k0, zam, zaa, getK, zab, zac, zan, zaR, del]; done) | fail) (by first | (simp [k0, zam, D.under, Ob.under, zad]; done) | fail) (by simp) ?_; (try simp [k0, zam]))
  | ((first | refine zag ?_ | refine zb0 rfl ?_ | refine zdi rfl ?_ | refine zak ?_ | fail); simp [k0, zam])
  | (refine ⟨by omega, ?_⟩)
  | (refine zah ?_; simp [k0, zam])
  | (refine zcM (hC _ (by kernel_rfl)) (hk _ ?_); clear hC hk C k; simp only [zao])
  | (refine zbZ rfl (by kernel_rfl) (by first | (simp [hn]; done) | (simp [hn]; omega) | fail) fun C k hC hk => ?_; simp [k0, zam])
  | (refine zaA ?_; simp [k0, zam])
  | fail)
 refine zmJ { n := 64, env := [(26, .u (.int .i64 0)), (25, .u (.int .i64 l.length)), (24, .u (.sl (l.map fun c => [.int .i64 c.A, .int .i64 c.B, .int .i64 c.N]))), (7, .ptr 5 0), (2, .u (.sl (begin_.map fun n => [.int .i64 n])))], obs := (0, .vec 26 1 (List.replicate m [.u .nil])) :: [(5, .box [.u (.sl (l.map fun c => [.int .i64 c.A, .int .i64 c.B, .int .i64 c.N])), .vec 0 m, .vec 1 m, .vec 3 m, .vec 4 m]), (1, .vec 3 1 (zbn (lst m (GS.zero bg).val))), (3, .vec 3 1 (zbn (lst m (zhI (-1) (GS.zero bg))))), (4, .vec 4 1 (zdh (List.replicate m false)))], next := 6 } ?_ ?_
 ·have q1 := zoJ m bg
  have q2 : List.replicate m (-1 : Int) = lst m (zhI (-1) (GS.zero bg)) := by rw [znt]; rfl
  have q3 := zpj m 0
  have q4 := zok m false
  have q5 : (∀ x ∈ List.replicate m [D.u .nil], ∀ y ∈ x, D.under 6 y = true) ↔ True := ⟨fun _ => trivial, fun _ x hx y hy => by rw [List.eq_of_mem_replicate hx] at hy; simp at hy; subst hy; simp [D.under]⟩
  exact (Wk.cut rfl (by simp [hn, St.lp]) (by simp [wkO, zgE, zce, zcf, zcB, zet, St.lp, zaa, getK, Ob.under, D.under, zad, zae, zaq, zam, zav, zap, q1, q2, q3, q4, q5]) (by simp [wkU, St.lp, zal, zaa, getK, D.under, zaq, zam, zav, zap, q1, q2, q3, q4, q5]) (by simp [wkE, St.lp, zal, zaa, getK, zaq, zam, zav, zap, q1, q2, q3, q4, q5] <;> (try (intros; simp_all; done)) <;> (try (intros; omega)) <;> (try grind)))
 refine zmJ _ (Wk.zq1 0 26 3 1 m (by decide) [(5, _), (1, _), (3, _), (4, _)] (by simp) (by simp) rfl) ?_
 simp only [znH l m, zn8 l m, List.cons_append, List.nil_append]
 rw [show 6 + m = m + 6 from Nat.add_comm 6 m]
 refine zcn (α := { k : Nat // k ≤ l.length }) [2, 7, 24, 25] (fun k => [(26, .u (.int .i64 k.1))])
  (fun k => (0, .vec 26 1 (idF 6 (zjT l m k.1))) :: (5, .box [.u (.sl (l.map fun c => [.int .i64 c.A, .int .i64 c.B, .int .i64 c.N])), .vec 0 m, .vec 1 m, .vec 3 m, .vec 4 m]) :: (1, .vec 3 1 (zbn (lst m (GS.zero bg).val))) :: (3, .vec 3 1 (zbn (lst m (zhI (-1) (GS.zero bg))))) :: (4, .vec 4 1 (zdh (List.replicate m false))) :: fam 6 (zlv l m k.1)) (m + 6) (fun k => l.length - k.1) ⟨0, by omega⟩ ?_ ?_
 ·exact (Wk.cut rfl (by simp [hn, St.lp]) (by simp [wkO, zgE, zce, zcf, zcB, zet, St.lp, zaa, getK, Ob.under, D.under, zad, zae, zaq, zam, zav, zap, zfM, zfL, ze4, zgb]) (by simp [wkU, St.lp, zal, zaa, getK, D.under, zaq, zam, zav, zap, zfM, zfL, ze4, zgb]) (by simp [wkE, St.lp, zal, zaa, getK, zaq, zam, zav, zap, zfM, zfL, ze4, zgb] <;> (try (intros; simp_all; done)) <;> (try (intros; omega)) <;> (try grind)))
 rintro ⟨k, hk⟩
 simp [St.lp, St.only, zal, zaa, getK]
 rcases hx : l[k]? with _ | c
 ·have hge : l.length ≤ k := by simpa using hx
  obtain rfl : k = l.length := by omega
  repeat' (first
  | ((first | refine zag ?_ | refine zak ?_ | refine zah ?_ | refine zaA ?_ | fail); simp [hx])
  | (refine za9 ?_; simp [zao])
  | fail)
  have hus : (((List.range m).map fun v => (zgz (zcz l v)).map fun z => [U.int .i64 z]).map fun r => Ob.vec 3 1 (rowsD r)) = zlv l m l.length := by
   simp only [zlv, List.map_map]
   refine List.map_congr_left fun v _ => ?_
   simp only [Function.comp]
   rw [← List.map_map, zjV, zik]
  have hls : (((List.range m).map fun v => (zgz (zcz l v)).map fun z => [U.int .i64 z]).map (·.length)) = zjT l m l.length := by
   simp only [zjT, List.map_map]
   refine List.map_congr_left fun v _ => ?_
   simp [Function.comp, zik]
  refine zmJ _ (Wk.zq2 0 6 26 3 1 ((List.range m).map fun v => (zgz (zcz l v)).map fun z => [U.int .i64 z]) [(5, _), (1, _), (3, _), (4, _)] (by omega) (by simp [zqb]) (by simp) (by rw [hus, hls]; rfl)) ?_
  refine zmJ _ (Wk.frz 0 [5] (us := ((List.range m).map fun v => (zgz (zcz l v)).map fun z => [U.int .i64 z]).map fun r => [U.sl r]) rfl (by simp)) ?_
  simp [St.frz, St.frzS, frzS, fv, zaQ, frzObS, del]
  have hfu : List.map ((fun r => [U.sl r]) ∘ fun v => List.map ((fun z => [U.int .i64 z]) ∘ Int.ofNat) (zcz l v)) (List.range m) = (List.range m).map fun v => [ints (zgz (zcz l v))] := by simp [ints, Function.comp_def]
  rw [hfu]
  have hk0 : List.replicate m false = bst m fun x => decide ((x : Int) ∈ begin_.take 0) := by rw [zqY]; simp
  refine zcn (α := { k : Nat // k ≤ begin_.length }) [7, 50, 51] (fun k => [(52, .u (.int .i64 k.1))])
   (fun k => [(5, .box [.u (.sl (l.map fun c => [.int .i64 c.A, .int .i64 c.B, .int .i64 c.N])), .u (.sl ((List.range m).map fun v => [ints (zgz (zcz l v))])), .vec 1 m, .vec 3 m, .vec 4 m]), (1, .vec 3 1 (zbn (lst m (GS.zero bg).val))), (3, .vec 3 1 (zbn (lst m (zhI (-1) (GS.zero bg))))), (4, .vec 4 1 (zdh (bst m fun x => decide ((x : Int) ∈ begin_.take k.1))))]) 6 (fun k => begin_.length - k.1) ⟨0, by omega⟩ ?_ ?_
  ·exact (Wk.cut rfl (by simp [hn, St.lp]) (by simp [wkO, zgE, zce, zcf, zcB, zet, St.lp, zaa, getK, Ob.under, D.under, zad, zae, zaq, zam, zav, zap, hk0]) (by simp [wkU, St.lp, zal, zaa, getK, D.under, zaq, zam, zav, zap, hk0]) (by simp [wkE, St.lp, zal, zaa, getK, zaq, zam, zav, zap, hk0] <;> (try (intros; simp_all; done)) <;> (try (intros; omega)) <;> (try grind)))
  rintro ⟨k, hk⟩
  simp [St.lp, St.only, zal, zaa, getK]
  rcases hv : begin_[k]? with _ | v
  ·have hge : begin_.length ≤ k := by simpa using hv
   have hfin : bst m (fun x => decide ((x : Int) ∈ begin_.take k)) = bst m (GS.zero bg).kn := by
    rw [List.take_of_length_le hge]
    unfold bst
    refine List.map_congr_left fun x hx' => ?_
    have hxm := List.mem_range.1 hx'
    have := hbg (x : Int)
    simp only [Int.toNat_natCast] at this
    rw [Bool.eq_iff_iff, decide_eq_true_iff, this]
    simp only [GS.zero]
    exact ⟨fun h => h.2.2, fun h => ⟨by omega, by omega, h⟩⟩
   rw [hfin]
   repeat' (first
  | ((first | refine zag ?_ | refine zak ?_ | fail); simp [hv])
  | (refine ⟨by omega, ?_⟩)
  | (refine zah ?_; simp [hv])
  | (refine zau ?_; simp only [zao])
  | (refine za9 ?_; simp [zao])
  | (intro hc <;> (try (exfalso; omega)))
  | fail)
   refine EndW.here ?_
   (first | (refine EndOK.fin (.inr rfl) ?_) | (refine EndOK.fin (.inl rfl) ?_)); simp [zaI, zaf, Tryz.results78]
   refine FinOK.here (by simp) ⟨rfl, rfl, ?_⟩
   simp [ints]
  ·have hlt : k < begin_.length := (lGE.1 hv).1
   have htk := zdA hv
   obtain ⟨hv0, hvm, _⟩ := (hbg v).1 (List.mem_of_getElem? hv)
   obtain ⟨V, rfl⟩ := Int.eq_ofNat_of_zero_le hv0
   have hVm : V < m := by omega
   have hst : bst m (fun j => decide (j = V) || decide ((j : Int) ∈ begin_.take k)) = bst m fun j => decide ((j : Int) ∈ begin_.take (k + 1)) := by
    unfold bst
    refine List.map_congr_left fun x _ => ?_
    rw [htk, Bool.eq_iff_iff]
    simp only [Bool.or_eq_true, decide_eq_true_eq, List.mem_append, List.mem_singleton]
    constructor
    ·rintro (h | h)
     ·exact .inr (by omega)
     ·exact .inl h
    ·rintro (h | h)
     ·exact .inr h
     ·exact .inl (by omega)
   repeat' (first
  | ((first | refine zag ?_ | refine zak ?_ | fail); simp [hv, hVm, zbb, zaV, zbJ, zbO, zbw, zcL, hst])
  | (refine ⟨by omega, ?_⟩)
  | ((first | refine zah ?_ | refine zat ?_ | fail); simp [hv, hVm, zbb, zaV, zbJ, zbO, zbw, zcL, hst])
  | (refine zar ?_; simp only [zao])
  | (refine ⟨?_, by omega⟩)
  | (intro hc <;> (try (exfalso; omega)))
  | fail)
   refine LoopW.next ⟨k + 1, by omega⟩ (by simp; omega) ?_
   exact (Wk.cut rfl (by simp [hn, St.lp]) (by simp [wkO, zgE, zce, zcf, zcB, zet, St.lp, zaa, getK, Ob.under, D.under, zad, zae, zaq, zam, zav, zap]) (by simp [wkU, St.lp, zal, zaa, getK, D.under, zaq, zam, zav, zap]) (by simp [wkE, St.lp, zal, zaa, getK, zaq, zam, zav, zap] <;> (try (intros; simp_all; done)) <;> (try (intros; omega)) <;> (try grind)))
 ·have hlt : k < l.length := (lGE.1 hx).1
  have hcl := hl c (List.mem_of_getElem? hx)
  have hls := zo6 (m := m) hx
  have hfs := zps (m := m) hx
  have hlen := zmt l k c.b
  obtain ⟨A, B, N⟩ := c
  simp only at hcl
  obtain ⟨ha0, han, hb0, hbn, hN1, hN2⟩ := hcl
  obtain ⟨b, rfl⟩ := Int.eq_ofNat_of_zero_le hb0
  simp only [Con.b, Int.toNat_natCast] at hls hfs hlen
  have hbm : b < m := by omega
  have hbne : ¬ b = m := by omega
  have hbne2 : ¬ m = b := by omega
  have hbne3 : ¬ b = m + 1 := by omega
  have hbne4 : ¬ b = m + 2 := by omega
  have hbne5 : ¬ m + 1 = b := by omega
  have hbne6 : ¬ m + 2 = b := by omega
  have hrow : ∀ h : b < (idF 6 (zjT l m k)).length, (idF 6 (zjT l m k))[b]'h = [D.vec (b + 6) (zcP l k b).length] := fun h => by
   have := ziZ 6 (zjT l m k) b _ (zo7 l hbm)
   rw [List.getElem?_eq_getElem h] at this
   exact Option.some.inj this
  have hget : getK (fam 6 (zlv l m k)) (b + 6) = some (.vec 3 1 (zbn (zgz (zcP l k b)))) := by rw [zeS, zpt l hbm]
  have hil := zgc 6 (zjT l m k)
  rw [ze4] at hil
  have q7 : zbn (zgz (zcP l k b)) ++ [[D.u (.int .i64 (k : Int))]] = zbn (zgz (zcP l k b ++ [k])) := by simp [zbn]
  have q8 := zdI (zgz (zcP l k b))
  skip
  repeat' (first
  | ((first | refine zag ?_ | refine zb0 rfl ?_ | refine zdi rfl ?_ | refine zak ?_ | fail); simp [hx, hrow, hget, hil, hbm, hbne, hbne2, hbne3, hbne4, hbne5, hbne6, zaE, q7, q8, List.length_map, zcB, zfa])
  | (refine ⟨by omega, ?_⟩)
  | (refine zah ?_; simp [hx, hrow, hget, hil, hbm, hbne, hbne2, hbne3, hbne4, hbne5, hbne6, zaE, q7, q8, List.length_map, zcB, zfa])
  | (refine zcM (hC _ (zdj [0, 5, m + 6, b + 6] (m + 7) (by simp <;> omega) (by simp <;> omega) (by apply Exists.intro; apply And.intro; (focus (repeat' (first | exact KF.nil | exact KL.nil | apply KF.cons | apply KL.cons 0 rfl | apply KL.cons 1 rfl | apply KL.cons 2 rfl | apply KL.cons 3 rfl | apply KL.cons 4 rfl | apply KL.cons 5 rfl | apply KL.cons 6 rfl | apply KL.cons 7 rfl | apply KL.cons 8 rfl | apply KL.cons 9 rfl))); kernel_rfl))) (hk _ ?_); clear hC hk C k; simp only [zao])
  | (refine zbZ rfl (by kernel_rfl) (by first | (simp [hn]; done) | (simp [hn]; omega) | fail) fun C k hC hk => ?_; simp [hx, hrow, hget, hil, hbm, hbne, hbne2, hbne3, hbne4, hbne5, hbne6, zaE, q7, q8, List.length_map, zcB, zfa])
  | (refine zat ?_; simp [hx, hrow, hget, hil, hbm, hbne, hbne2, hbne3, hbne4, hbne5, hbne6, zaE, q7, q8, List.length_map, zcB, zfa])
  | (refine zar ?_; simp only [zao])
  | (refine ⟨?_, by omega⟩)
  | (intro hc <;> (try (exfalso; omega)))
  | fail)
  refine LoopW.next ⟨k + 1, by omega⟩ (by simp; omega) ?_
  simp only [← hls, ← hfs]
  refine Wk.zrX 0 6 (m + 6 + 1 + 1) b 26 ((zcP l k b).length + 1) (zjT l m k) _ rfl (by simp [hn]) (by simp [hn]) (by simp only; omega) (by omega) (by rw [ze4]; exact hbm) (by rw [ze4]; exact Nat.le_refl _) ?_ rfl ?_ ?_
  ·simp [zaa, zac, zan]
  ·simp [zjk, zeJ, St.lp, zal, zaa, getK, D.under, D.le, D.ren]
  ·simp only [wkR]
   refine ⟨?_, ?_, ?_, ?_, zmM (fun q hq1 hq2 => ?_) (zfL l m k) (fun o ho => ?_) (by rw [zfM]; exact Nat.le_refl _) ?_⟩
   ·simp [zeJ, zaa, zac, zan, obR, leU, D.under, D.le, D.ren]
   ·simp [zeJ, zaa, zac, zan, obR, zaq]
   ·simp [zeJ, zaa, zac, zan, obR, zaq]
   ·simp [zeJ, zaa, zac, zan, obR, zav]
   ·rw [zfM] at hq2
    have w1 : ¬ q = m + 2 := by omega
    have w2 : ¬ q = m + 1 := by omega
    have w3 : ¬ q = m := by omega
    simp [zaa, zac, zan, w1, w2, w3, hq1, zeS]
   ·simp at ho
    subst ho
    exact ⟨_, _, _, rfl, zaq _⟩
   ·simp [zaa, zac, zan]
set_option maxHeartbeats 16000000 in
theorem zqw (m : Nat) (l : List Con) (bg : Nat → Bool) (begin_ : List Int) (gF : GS) (ret : Int) (hm : m ≤ 200) (hl : OkC m l) (hll : l.length ≤ 2000) (hK : (m + 1) * (m * l.length) ≤ 3000000) (hbl : begin_.length ≤ m)
  (hbg : ∀ x, x ∈ begin_ ↔ 0 ≤ x ∧ x < m ∧ bg x.toNat = true) (hF : zoH zgy l (m + 1) (GS.zero bg) begin_ = (gF, ret)) :
  Ret Tryz.prog 80 [.ptr 5 0, .u (ints begin_)] (zp9 l m (GS.zero bg)) 6 fun d obs nx' => d = .u (.int .i64 ret) ∧ obs = zp9 l m gF ∧ nx' = 6 := by
 have hcl := zof begin_ (by omega)
 simp only [zp9, consU, ints] at hcl ⊢
 (refine Ret.of_bodyW Tryz.func80 rfl (by simp) fun Γ hn => ?_); simp only [entry, ziC, ziN, maC, maN, oA, Tryz.ntmps80]
 repeat' (first
  | ((first | refine zag ?_ | refine zak ?_ | fail); simp [zaE, za6])
  | (refine ⟨by omega, ?_⟩)
  | ((first | refine zah ?_ | refine zaA ?_ | fail); simp [zaE, za6])
  | (refine CallP.fE (hcl) (by first | rfl | fail) (by first | simp [zaE, za6] <;> rfl | fail) ?_; (try simp [zaE, za6]))
  | fail)
 refine zcn (α := { s : Nat × GS × List Int // s.1 ≤ m + 1 ∧ s.2.2.length ≤ m ∧ (s.1 = m + 1 → s.2.2 ≠ []) ∧ (∃ t L, t ≤ s.1 * (m * l.length) ∧ PI m l bg s.1 s.2.2 t s.2.1 L) ∧ zoH zgy l (m + 1 - s.1) s.2.1 s.2.2 = (gF, ret) }) [0, 20]
  (fun s => [(5, .u (.sl (s.1.2.2.map fun n => [U.int .i64 n]))), (21, .u (.int .i64 s.1.1))])
  (fun s => [(5, .box [.u (.sl (l.map fun c => [.int .i64 c.A, .int .i64 c.B, .int .i64 c.N])), .u (.sl ((List.range m).map fun v => [.sl ((zgz (zcz l v)).map fun n => [.int .i64 n])])), .vec 1 m, .vec 3 m, .vec 4 m]), (1, .vec 3 1 (zbn (lst m s.1.2.1.val))), (3, .vec 3 1 (zbn (lst m (zhI (-1) s.1.2.1)))), (4, .vec 4 1 (zdh (bst m s.1.2.1.kn)))]) 6 (fun s => m + 1 - s.1.1)
  ⟨(0, GS.zero bg, begin_), by omega, hbl, by simp, ⟨0, fun _ => 0, by simp, PI.zero hl hbg⟩, hF⟩ ?_ ?_
 ·exact (Wk.cut rfl (by simp [hn, St.lp]) (by simp [wkO, St.lp, zaa, getK, Ob.under, D.under, zad, zae, zaq, zam, zav, zap]) (by simp [wkU, St.lp, zal, zaa, getK, D.under, zaq, zam, zav, zap]) (by simp [wkE, St.lp, zal, zaa, getK, zaq, zam, zav, zap] <;> (try (intros; simp_all; done)) <;> (try (intros; omega)) <;> (try grind)))
 rintro ⟨⟨r, g, todo⟩, hr, htl, hrt, ⟨t, L, ht, hPI⟩, hfin⟩
 simp only at hr htl hrt ht hPI hfin
 simp [St.lp, St.only, zal, zaa, getK]
 by_cases hrm : r = m + 1
 ·subst hrm
  have hne := hrt rfl
  rw [Nat.sub_self, zoH] at hfin
  cases todo with
  | nil => exact absurd rfl hne
  | cons v todo =>
   simp only [List.headD_cons, Prod.mk.injEq] at hfin
   obtain ⟨rfl, rfl⟩ := hfin
   repeat' (first
  | ((first | refine zag ?_ | refine zak ?_ | refine zah ?_ | fail); simp)
  | (refine zau ?_; simp only [zao])
  | (refine za9 ?_; simp [zao])
  | fail)
   refine EndW.here ?_
   (first | (refine EndOK.fin (.inr rfl) ?_) | (refine EndOK.fin (.inl rfl) ?_)); simp [zaI, zaf, Tryz.results80]
   exact FinOK.here (by simp) ⟨rfl, rfl, rfl⟩
 have hrlt : (r : Int) < (m : Int) + 1 := by omega
 obtain ⟨f, hf⟩ : ∃ f, m + 1 - r = f + 1 := ⟨m - r, by omega⟩
 rw [hf, zoH] at hfin
 repeat' (first
  | ((first | refine zag ?_ | refine zak ?_ | refine zah ?_ | refine zaA ?_ | fail); simp [hrlt])
  | (refine zar ?_; simp only [zao])
  | fail)
 refine zmJ _ (Wk.own 6 3 1 (by decide) rfl) ?_
 simp [St.own]
 have hk2 : r * (m * l.length) + m * l.length ≤ (m + 1) * (m * l.length) := by rw [← Nat.succ_mul]; exact Nat.mul_le_mul_right _ (by omega)
 have hk3 : todo.length * l.length ≤ m * l.length := Nat.mul_le_mul_right _ htl
 obtain ⟨S2, hS2⟩ : ∃ S2 : Nat → GS × List Int, S2 = fun p => (todo.take p).foldl (zhZ l) (g, []) := ⟨_, rfl⟩
 have hS20 : S2 0 = (g, []) := by rw [hS2]; rfl
 refine zcn (α := { p : Nat // p ≤ todo.length }) [0, 5, 20, 21, 23, 24] (fun p => [(6, .vec 6 (S2 p.1).2.length), (25, .u (.int .i64 p.1))])
  (fun p => [(6, .vec 3 1 (zbn (S2 p.1).2)), (5, .box [.u (.sl (l.map fun c => [.int .i64 c.A, .int .i64 c.B, .int .i64 c.N])), .u (.sl ((List.range m).map fun v => [.sl ((zgz (zcz l v)).map fun n => [.int .i64 n])])), .vec 1 m, .vec 3 m, .vec 4 m]), (1, .vec 3 1 (zbn (lst m (S2 p.1).1.val))), (3, .vec 3 1 (zbn (lst m (zhI (-1) (S2 p.1).1)))), (4, .vec 4 1 (zdh (bst m (S2 p.1).1.kn)))]) 7 (fun p => todo.length - p.1) ⟨0, by omega⟩ ?_ ?_
 ·exact (Wk.cut rfl (by simp [hn, St.lp]) (by simp [wkO, St.lp, zaa, getK, Ob.under, D.under, zad, zae, zaq, zam, zav, zap, hS20, zbn]) (by simp [wkU, St.lp, zal, zaa, getK, D.under, zaq, zam, zav, zap, hS20, zbn]) (by simp [wkE, St.lp, zal, zaa, getK, zaq, zam, zav, zap, hS20, zbn] <;> (try (intros; simp_all; done)) <;> (try (intros; omega)) <;> (try grind)))
 rintro ⟨p, hp⟩
 simp [St.lp, St.only, zal, zaa, getK]
 obtain ⟨L2, u, hPM⟩ := hPI.take hl p hp
 have hpl : p * l.length ≤ todo.length * l.length := Nat.mul_le_mul_right _ hp
 have hS2p : (todo.take p).foldl (zhZ l) (g, []) = S2 p := by rw [hS2]
 rw [hS2p] at hPM
 rcases hv : todo[p]? with _ | v
 ·have hge : todo.length ≤ p := by simpa using hv
  obtain rfl : p = todo.length := by omega
  have hrd : S2 todo.length = zey l g todo := by rw [hS2]; simp only [List.take_length]; rfl
  rw [hrd] at hPM ⊢
  rw [List.drop_length] at hPM
  rcases hq : zey l g todo with ⟨g', nx⟩
  rw [hq] at hfin hPM
  simp only at hfin
  have hnl := hPM.len
  simp only at hnl
  by_cases hnx : nx = []
  ·subst hnx
   simp only [if_true, Prod.mk.injEq] at hfin
   obtain ⟨rfl, rfl⟩ := hfin
   repeat' (first
  | ((first | refine zag ?_ | refine zak ?_ | refine zah ?_ | refine zai ?_ | fail); simp [hv])
  | (refine zau ?_; simp only [zao])
  | (refine za9 ?_; simp [zao])
  | fail)
   refine EndW.wk { n := _, env := [(4, .u (.int .i64 (-1)))], obs := [(5, .box [.u (.sl (l.map fun c => [.int .i64 c.A, .int .i64 c.B, .int .i64 c.N])), .u (.sl ((List.range m).map fun v => [.sl ((zgz (zcz l v)).map fun n => [.int .i64 n])])), .vec 1 m, .vec 3 m, .vec 4 m]), (1, .vec 3 1 (zbn (lst m g'.val))), (3, .vec 3 1 (zbn (lst m (zhI (-1) g')))), (4, .vec 4 1 (zdh (bst m g'.kn)))], next := 6 } (Wk.cut rfl (by simp [hn, St.lp]) (by simp [wkO, St.lp, zaa, getK, Ob.under, D.under, zad, zae, zaq, zam, zav, zap]) (by simp [wkU, St.lp, zal, zaa, getK, D.under, zaq, zam, zav, zap]) (by simp [wkE, St.lp, zal, zaa, getK, zaq, zam, zav, zap] <;> (try (intros; simp_all; done)) <;> (try (intros; omega)) <;> (try grind))) (EndW.here ?_)
   (first | (refine EndOK.fin (.inr rfl) ?_) | (refine EndOK.fin (.inl rfl) ?_)); simp [zaI, zaf, Tryz.results80]
   exact FinOK.here (by simp) ⟨rfl, rfl, rfl⟩
  ·rw [if_neg hnx] at hfin
   have hsl : (zff nx).length = nx.length := by simp [zff]
   have hnz : ¬ nx.length = 0 := fun h => hnx (List.eq_nil_of_length_eq_zero h)
   have hsr := zoP 3 6 7 (by omega) nx (by omega)
   have hcr := zkX 3 6 7 (by omega) (zff nx) (by omega)
   rw [hsl] at hcr
   have hcle : (Lib.compact (zff nx)).length ≤ nx.length := by rw [← hsl]; exact Lib.compact_length_le _
   have hcsl := zke (zff nx)
   rw [hsl] at hcsl
   have htake : (zkZ (zff nx)).take (Lib.compact (zff nx)).length = zgy nx := by rw [zkZ, List.take_left' rfl]; rfl
   repeat' (first
  | ((first | refine zag ?_ | refine zak ?_ | fail); simp [hv, hnz, hnx, zaE, hcsl, hcle, del, zab])
  | (refine ⟨by omega, ?_⟩)
  | ((first | refine zah ?_ | refine zai ?_ | refine zat ?_ | fail); simp [hv, hnz, hnx, zaE, hcsl, hcle, del, zab])
  | (refine zar ?_; simp only [zao])
  | (refine za9 ?_; simp [zao])
  | (refine CallP.zs7 (hsr) (by simp [getK]) (by rfl) (by first | assumption | simp) (by rfl) (by simp) ?_; rintro d o n' hn' ⟨rfl, rfl, rfl⟩; (try simp at hn'); (try simp [hv, hnz, hnx, zaE, hcsl, hcle, del, zab]))
  | (refine CallP.zs7 (hcr) (by simp [getK]) (by rfl) (by first | assumption | simp) (by rfl) (by simp) ?_; rintro d o n' hn' ⟨rfl, rfl, rfl⟩; (try simp at hn'); (try simp [hv, hnz, hnx, zaE, hcsl, hcle, del, zab]))
  | fail)
   have hmt : ((zkZ (zff nx)).map fun z => [U.int .i64 z]).take (Lib.compact (zff nx)).length = (zgy nx).map fun z => [U.int .i64 z] := by rw [← List.map_take, htake]
   have hnn : zgy nx ≠ [] := fun e => by
    obtain ⟨x, hx⟩ := List.exists_mem_of_ne_nil _ hnx
    have := (zd5 nx x).2 hx
    rw [e] at this
    cases this
   refine LoopW.next ⟨(r + 1, g', zgy nx), by simp only; omega, zjP nx fun x hx => let ⟨a, b, _⟩ := hPM.nx x hx; ⟨a, b⟩, fun _ => hnn, ⟨t + todo.length * l.length, L2, by simp only; rw [Nat.succ_mul]; omega, hPM.fin fun x => zd5 nx x⟩, by simp only; rw [show m + 1 - (r + 1) = f by omega]; exact hfin⟩ (by simp; omega) ?_
   refine (Wk.frz (e := 3) (sz := 1) 6 [] (us := (zkZ (zff nx)).map fun z => [U.int .i64 z]) (by simp [zaa]) (zdR _)).trans ?_
   simp only [St.frz, St.frzS, frzS, fv, zaQ, frzObS, List.map_cons, List.map_nil]
   exact (Wk.cut rfl (by simp [hn, St.lp]) (by simp [wkO, St.lp, zaa, getK, Ob.under, D.under, zad, zae, zaq, zam, zav, zap, hcsl, hcle, hmt]) (by simp [wkU, St.lp, zal, zaa, getK, D.under, zaq, zam, zav, zap, hcsl, hcle, hmt]) (by simp [wkE, St.lp, zal, zaa, getK, zaq, zam, zav, zap, hcsl, hcle, hmt] <;> (try (intros; simp_all; done)) <;> (try (intros; omega)) <;> (try grind)))
 ·have hlt : p < todo.length := (lGE.1 hv).1
  have hdr : todo.drop p = v :: todo.drop (p + 1) := by
   rw [List.drop_eq_getElem_cons hlt]
   congr 1
   exact (lGE.1 hv).2
  rw [hdr] at hPM
  have hvm := List.mem_of_getElem? hv
  obtain ⟨hv0, hvn, hvk, hvL⟩ := hPM.all v hvm
  obtain ⟨V, rfl⟩ := Int.eq_ofNat_of_zero_le hv0
  simp only [Int.toNat_natCast] at hvk hvL
  have hVm : V < m := by omega
  have hPN := hPM.next hl
  rw [Int.toNat_natCast] at hPN
  have hfl := zj2 l V
  obtain ⟨S3, hS3⟩ : ∃ S3 : Nat → GS × List Int, S3 = fun q => ((zcz l V).take q).foldl (zlX l) (S2 p) := ⟨_, rfl⟩
  have hS30 : S3 0 = S2 p := by rw [hS3]; rfl
  have hS31 : S3 (zcz l V).length = S2 (p + 1) := by
   rw [hS3, hS2]
   simp only [List.take_length]
   rw [zdA hv, List.foldl_append]
   rfl
  repeat' (first
  | ((first | refine zag ?_ | refine zak ?_ | refine zah ?_ | refine zaA ?_ | fail); simp [hv, hVm])
  | (refine zar ?_; simp only [zao])
  | (refine ⟨?_, by omega⟩)
  | (intro hc <;> (try (exfalso; omega)))
  | fail)
  refine zcn (α := { q : Nat // q ≤ (zcz l V).length }) [0, 5, 8, 20, 21, 23, 24, 25, 35, 36] (fun q => [(6, .vec 6 (S3 q.1).2.length), (37, .u (.int .i64 q.1))])
   (fun q => [(6, .vec 3 1 (zbn (S3 q.1).2)), (5, .box [.u (.sl (l.map fun c => [.int .i64 c.A, .int .i64 c.B, .int .i64 c.N])), .u (.sl ((List.range m).map fun v => [.sl ((zgz (zcz l v)).map fun n => [.int .i64 n])])), .vec 1 m, .vec 3 m, .vec 4 m]), (1, .vec 3 1 (zbn (lst m (S3 q.1).1.val))), (3, .vec 3 1 (zbn (lst m (zhI (-1) (S3 q.1).1)))), (4, .vec 4 1 (zdh (bst m (S3 q.1).1.kn)))]) 7 (fun q => (zcz l V).length - q.1) ⟨0, by omega⟩ ?_ ?_
  ·exact (Wk.cut rfl (by simp [hn, St.lp]) (by simp [wkO, St.lp, zaa, getK, Ob.under, D.under, zad, zae, zaq, zam, zav, zap, hS30]) (by simp [wkU, St.lp, zal, zaa, getK, D.under, zaq, zam, zav, zap, hS30]) (by simp [wkE, St.lp, zal, zaa, getK, zaq, zam, zav, zap, hS30] <;> (try (intros; simp_all; done)) <;> (try (intros; omega)) <;> (try grind)))
  rintro ⟨q, hq⟩
  simp [St.lp, St.only, zal, zaa, getK]
  obtain ⟨L3, hPQ⟩ := hPN.take hl hvm (fun _ h => h) q hq
  have hS3q : ((zcz l V).take q).foldl (zlX l) (S2 p) = S3 q := by rw [hS3]
  rw [hS3q] at hPQ
  rcases hi : (zcz l V)[q]? with _ | i
  ·have hge : (zcz l V).length ≤ q := by simpa using hi
   obtain rfl : q = (zcz l V).length := by omega
   rw [hS31]
   repeat' (first
  | ((first | refine zag ?_ | refine zak ?_ | fail); simp [hi])
  | (refine ⟨by omega, ?_⟩)
  | ((first | refine zah ?_ | refine zat ?_ | fail); simp [hi])
  | (refine za9 ?_; simp [zao])
  | fail)
   refine LoopW.next ⟨p + 1, by omega⟩ (by simp; omega) ?_
   exact (Wk.cut rfl (by simp [hn, St.lp]) (by simp [wkO, St.lp, zaa, getK, Ob.under, D.under, zad, zae, zaq, zam, zav, zap]) (by simp [wkU, St.lp, zal, zaa, getK, D.under, zaq, zam, zav, zap]) (by simp [wkE, St.lp, zal, zaa, getK, zaq, zam, zav, zap] <;> (try (intros; simp_all; done)) <;> (try (intros; omega)) <;> (try grind)))
  ·have hqlt : q < (zcz l V).length := (lGE.1 hi).1
   obtain ⟨c, hci, hcb⟩ := zfG.1 (List.mem_of_getElem? hi)
   have hS3s : S3 (q + 1) = zlX l (S3 q) i := by rw [hS3]; simp only; rw [zdA hi, List.foldl_append]; rfl
   have hbd := hPQ.bd
   have hnl := hPQ.len
   rcases hst : S3 q with ⟨G, nx⟩
   rw [hst] at hS3s hbd hnl
   simp only at hbd hnl
   have htt : t + p * l.length + q ≤ 4000000 := by omega
   have hva := hbd.small htt c.a
   have hvb := hbd.small htt V
   obtain ⟨ha0, han, hb0, hbn, hN1, hN2⟩ := hl c (List.mem_of_getElem? hci)
   have hN3 : -1099511627776 ≤ c.N ∧ c.N ≤ 1099511627776 := ⟨hN1, hN2⟩
   have hau := zqr G i c m
   have hku := zry G i c m
   have hpu := zqs (-1) G i c m
   have hrel : zlX l (G, nx) i = if (!G.kn c.a || decide (G.val c.b + c.N < G.val c.a)) = true then (G.upd i c, nx ++ [c.A]) else (G, nx) := by unfold zlX; rw [hci]
   rw [hrel, hcb] at hS3s
   rw [hcb] at hau
   obtain ⟨A, B, N⟩ := c
   simp only [Con.a] at *
   obtain ⟨a, rfl⟩ := Int.eq_ofNat_of_zero_le ha0
   simp only [Int.toNat_natCast] at *
   have han' : a < m := by omega
   have q7 : zbn nx ++ [[D.u (.int .i64 (a : Int))]] = zbn (nx ++ [(a : Int)]) := by simp [zbn]
   have q8 := zdI nx
   cases hka : G.kn a with
   | false =>
    simp only [hka, Bool.not_false, Bool.true_or, if_true] at hS3s
    repeat' (first
  | ((first | refine zag ?_ | refine zb0 rfl ?_ | refine zdi rfl ?_ | refine zak ?_ | fail); simp [hi, hci, zaE, zaP, zcs, za6, za5, zc0, zbb, zaV, zbJ, zbO, zbw, zcL, hka, han', hVm, hau, hku, hpu, q7, q8])
  | (refine ⟨by omega, ?_⟩)
  | ((first | refine zah ?_ | refine zai ?_ | fail); simp [hi, hci, zaE, zaP, zcs, za6, za5, zc0, zbb, zaV, zbJ, zbO, zbw, zcL, hka, han', hVm, hau, hku, hpu, q7, q8])
  | (refine zcM (hC _ (by kernel_rfl)) (hk _ ?_); clear hC hk C k; simp only [zao])
  | (refine zbZ rfl (by kernel_rfl) (by first | (simp [hn]; done) | (simp [hn]; omega) | fail) fun C k hC hk => ?_; simp [hi, hci, zaE, zaP, zcs, za6, za5, zc0, zbb, zaV, zbJ, zbO, zbw, zcL, hka, han', hVm, hau, hku, hpu, q7, q8])
  | (refine zhz rfl (by simp [hi, hci, zaE, zaP, zcs, za6, za5, zc0, zbb, zaV, zbJ, zbO, zbw, zcL, hka, han', hVm, hau, hku, hpu, q7, q8]) (fun hc => ?_) (fun hc => ?_) <;> (try simp [hi, hci, zaE, zaP, zcs, za6, za5, zc0, zbb, zaV, zbJ, zbO, zbw, zcL, hka, han', hVm, hau, hku, hpu, q7, q8] at hc) <;> (try (exfalso; omega)) <;> (try simp [hi, hci, zaE, zaP, zcs, za6, za5, zc0, zbb, zaV, zbJ, zbO, zbw, zcL, hka, han', hVm, hau, hku, hpu, q7, q8]))
  | (refine zat ?_; simp [hi, hci, zaE, zaP, zcs, za6, za5, zc0, zbb, zaV, zbJ, zbO, zbw, zcL, hka, han', hVm, hau, hku, hpu, q7, q8])
  | (refine zar ?_; simp only [zao])
  | (refine ⟨?_, by omega⟩)
  | (intro hc <;> (try (exfalso; omega)))
  | fail)
    refine LoopW.next ⟨q + 1, by omega⟩ (by simp; omega) ?_
    exact (Wk.zrW (6) (9) rfl (by simp [hn]) (by simp [hn]) (by simp [zaq, zam, zav, zap, hS3s]) (by simp [zjk, zeJ, St.lp, zal, zaa, getK, zac, zan, D.under, D.le, D.ren, zaq, zam, zav, zap, hS3s] <;> (try (intros; simp_all; done)) <;> (try omega)) (by simp [wkR, zeF, zce, zcf, zcB, zet, zeJ, St.lp, zaa, getK, zac, zan, obR, leU, zb2, za4, Ob.under, D.under, D.le, D.ren, zaq, zam, zav, zap, hS3s] <;> (try (intros; simp_all; done)) <;> (try omega)))
   | true =>
    by_cases hlt2 : G.val V + N < G.val a
    ·simp only [hka, Bool.not_true, Bool.false_or, decide_eq_true hlt2, if_true] at hS3s
     repeat' (first
  | ((first | refine zag ?_ | refine zb0 rfl ?_ | refine zdi rfl ?_ | refine zjh rfl ?_ | refine zak ?_ | fail); simp [hi, hci, zaE, zaP, zcs, za6, za5, zc0, zbb, zaV, zbJ, zbO, zbw, zcL, hka, han', hVm, hau, hku, hpu, q7, q8, hlt2])
  | (refine ⟨by omega, ?_⟩)
  | ((first | refine zah ?_ | refine zai ?_ | fail); simp [hi, hci, zaE, zaP, zcs, za6, za5, zc0, zbb, zaV, zbJ, zbO, zbw, zcL, hka, han', hVm, hau, hku, hpu, q7, q8, hlt2])
  | (refine zcM (hC _ (by kernel_rfl)) (hk _ ?_); clear hC hk C k; simp only [zao])
  | (refine zbZ rfl (by kernel_rfl) (by first | (simp [hn]; done) | (simp [hn]; omega) | fail) fun C k hC hk => ?_; simp [hi, hci, zaE, zaP, zcs, za6, za5, zc0, zbb, zaV, zbJ, zbO, zbw, zcL, hka, han', hVm, hau, hku, hpu, q7, q8, hlt2])
  | (refine zhz rfl (by simp [hi, hci, zaE, zaP, zcs, za6, za5, zc0, zbb, zaV, zbJ, zbO, zbw, zcL, hka, han', hVm, hau, hku, hpu, q7, q8, hlt2]) (fun hc => ?_) (fun hc => ?_) <;> (try simp [hi, hci, zaE, zaP, zcs, za6, za5, zc0, zbb, zaV, zbJ, zbO, zbw, zcL, hka, han', hVm, hau, hku, hpu, q7, q8, hlt2] at hc) <;> (try (exfalso; omega)) <;> (try simp [hi, hci, zaE, zaP, zcs, za6, za5, zc0, zbb, zaV, zbJ, zbO, zbw, zcL, hka, han', hVm, hau, hku, hpu, q7, q8, hlt2]))
  | (refine zat ?_; simp [hi, hci, zaE, zaP, zcs, za6, za5, zc0, zbb, zaV, zbJ, zbO, zbw, zcL, hka, han', hVm, hau, hku, hpu, q7, q8, hlt2])
  | (refine zar ?_; simp only [zao])
  | (refine ⟨?_, by omega⟩)
  | (intro hc <;> (try (exfalso; omega)))
  | fail)
     refine LoopW.next ⟨q + 1, by omega⟩ (by simp; omega) ?_
     exact (Wk.zrW (6) (9) rfl (by simp [hn]) (by simp [hn]) (by simp [zaq, zam, zav, zap, hS3s]) (by simp [zjk, zeJ, St.lp, zal, zaa, getK, zac, zan, D.under, D.le, D.ren, zaq, zam, zav, zap, hS3s] <;> (try (intros; simp_all; done)) <;> (try omega)) (by simp [wkR, zeF, zce, zcf, zcB, zet, zeJ, St.lp, zaa, getK, zac, zan, obR, leU, zb2, za4, Ob.under, D.under, D.le, D.ren, zaq, zam, zav, zap, hS3s] <;> (try (intros; simp_all; done)) <;> (try omega)))
    ·simp only [hka, Bool.not_true, Bool.false_or, decide_eq_false hlt2, Bool.false_eq_true, if_false] at hS3s
     repeat' (first
  | ((first | refine zag ?_ | refine zb0 rfl ?_ | refine zjh rfl ?_ | refine zak ?_ | fail); simp [hi, hci, zaE, zaP, za6, za5, zbb, zaV, zbO, zbw, hka, han', hVm, hlt2])
  | (refine ⟨by omega, ?_⟩)
  | ((first | refine zah ?_ | refine zai ?_ | fail); simp [hi, hci, zaE, zaP, za6, za5, zbb, zaV, zbO, zbw, hka, han', hVm, hlt2])
  | (refine zcM (hC _ (by kernel_rfl)) (hk _ ?_); clear hC hk C k; simp only [zao])
  | (refine zbZ rfl (by kernel_rfl) (by first | (simp [hn]; done) | (simp [hn]; omega) | fail) fun C k hC hk => ?_; simp [hi, hci, zaE, zaP, za6, za5, zbb, zaV, zbO, zbw, hka, han', hVm, hlt2])
  | (refine zhz rfl (by simp [hi, hci, zaE, zaP, za6, za5, zbb, zaV, zbO, zbw, hka, han', hVm, hlt2]) (fun hc => ?_) (fun hc => ?_) <;> (try simp [hi, hci, zaE, zaP, za6, za5, zbb, zaV, zbO, zbw, hka, han', hVm, hlt2] at hc) <;> (try (exfalso; omega)) <;> (try simp [hi, hci, zaE, zaP, za6, za5, zbb, zaV, zbO, zbw, hka, han', hVm, hlt2]))
  | (refine zat ?_; simp [hi, hci, zaE, zaP, za6, za5, zbb, zaV, zbO, zbw, hka, han', hVm, hlt2])
  | (refine zar ?_; simp only [zao])
  | (refine ⟨?_, by omega⟩)
  | (intro hc <;> (try (exfalso; omega)))
  | fail)
     refine LoopW.next ⟨q + 1, by omega⟩ (by simp; omega) ?_
     exact (Wk.cut rfl (by simp [hn, St.lp]) (by simp [wkO, St.lp, zaa, getK, Ob.under, D.under, zad, zae, zaq, zam, zav, zap, hS3s]) (by simp [wkU, St.lp, zal, zaa, getK, D.under, zaq, zam, zav, zap, hS3s]) (by simp [wkE, St.lp, zal, zaa, getK, zaq, zam, zav, zap, hS3s] <;> (try (intros; simp_all; done)) <;> (try (intros; omega)) <;> (try grind)))
theorem zpR (m M : Nat) (l : List Con) (bg : Nat → Bool) (g : GS) (v to k : Nat) (hm : m ≤ 200) (hl : OkC m l) (hll : l.length ≤ 2000) (hinv : Inv l bg g) (hv : v < m) (hk : 0 < k) (hkm : k ≤ m) (hal : al l g k v) (hto : it l g k v = to) (hmin : ∀ j, 0 < j → j < k → it l g j v ≠ to) :
  Ret Tryz.prog 81 [.ptr 5 0, .u (.int .i64 v), .u (.int .i64 to)] (zp9 l m g) (M + 6) fun d obs nx' => d = .u (ints (pl l (-1) g k v).reverse) ∧ obs = zp9 l m g ∧ nx' = M + 6 := by
 simp only [zp9, consU, ints]
 (refine Ret.of_bodyW Tryz.func81 rfl (by simp) fun Γ hn => ?_); simp only [entry, ziC, ziN, maC, maN, oA, Tryz.ntmps81]
 repeat' (first
  | ((first | refine zag ?_ | refine zak ?_ | refine zah ?_ | refine zaA ?_ | fail); simp)
  | fail)
 refine zmJ _ (Wk.own 7 3 1 (by decide) rfl) ?_
 simp [St.own]
 refine zcn (α := { q : Nat // q ≤ k }) [0, 2] (fun q => [(1, .u (.int .i64 (it l g q.1 v))), (7, .vec (M + 6) q.1), (8, .u (.bool (decide (q.1 = 0))))])
  (fun q => [(M + 6, .vec 3 1 (zbn (pl l (-1) g q.1 v))), (5, .box [.u (.sl (l.map fun c => [.int .i64 c.A, .int .i64 c.B, .int .i64 c.N])), .u (.sl ((List.range m).map fun v => [.sl ((zgz (zcz l v)).map fun n => [.int .i64 n])])), .vec 1 m, .vec 3 m, .vec 4 m]), (1, .vec 3 1 (zbn (lst m g.val))), (3, .vec 3 1 (zbn (lst m (zhI (-1) g)))), (4, .vec 4 1 (zdh (bst m g.kn)))]) (M + 7) (fun q => k - q.1) ⟨0, by omega⟩ ?_ ?_
 ·exact (Wk.cut rfl (by simp [hn, St.lp]) (by simp [wkO, St.lp, zaa, getK, Ob.under, D.under, zad, zae, zaq, zam, zav, zap, it, pl, zbn]) (by simp [wkU, St.lp, zal, zaa, getK, D.under, zaq, zam, zav, zap, it, pl, zbn]) (by simp [wkE, St.lp, zal, zaa, getK, zaq, zam, zav, zap, it, pl, zbn] <;> (try (intros; simp_all; done)) <;> (try (intros; omega)) <;> (try grind)))
 rintro ⟨q, hq⟩
 simp [St.lp, St.only, zal, zaa, getK]
 have q9 := zlh l (-1) g q v
 by_cases hqk : q < k
 ·have hxi : it l g q v < m := znU hl q hv
  obtain ⟨I, c, q1, q2, q3, q4⟩ := zop (-1) hl hinv hxi (zrV hal hqk)
  have q5 := znT l g q v
  rw [← q5] at q3
  have q6 := zm9 l (-1) g q v
  rw [q1] at q6
  have q7 : zbn (pl l (-1) g q v) ++ [[D.u (.int .i64 (I : Int))]] = zbn (pl l (-1) g (q + 1) v) := by rw [q6]; simp [zbn]
  have q8 := zdI (pl l (-1) g q v)
  by_cases hq0 : q = 0
  ·subst hq0
   repeat' (first
  | ((first | refine zag ?_ | refine zb0 rfl ?_ | refine zak ?_ | refine zah ?_ | refine zai ?_ | fail); simp [zaE, zaP, za6, za5, hxi, q1, q2, q3, q4, q7, q8, q9])
  | (refine zcM (hC _ (by kernel_rfl)) (hk _ ?_); clear hC hk C k; simp only [zao])
  | (refine zbZ rfl (by kernel_rfl) (by first | (simp [hn]; done) | (simp [hn]; omega) | fail) fun C k hC hk => ?_; simp [zaE, zaP, za6, za5, hxi, q1, q2, q3, q4, q7, q8, q9])
  | (refine zat ?_; simp [zaE, zaP, za6, za5, hxi, q1, q2, q3, q4, q7, q8, q9])
  | (refine zar ?_; simp only [zao])
  | fail)
   refine LoopW.next ⟨0 + 1, by omega⟩ (by simp; omega) ?_
   exact (Wk.zrW (M + 6) (M + 8) rfl (by simp [hn]) (by simp [hn]) (by simp [zaq, zam, zav, zap]) (by simp [zjk, zeJ, St.lp, zal, zaa, getK, zac, zan, D.under, D.le, D.ren, zaq, zam, zav, zap] <;> (try (intros; simp_all; done)) <;> (try omega)) (by simp [wkR, zeF, zce, zcf, zcB, zet, zeJ, St.lp, zaa, getK, zac, zan, obR, leU, zb2, za4, Ob.under, D.under, D.le, D.ren, zaq, zam, zav, zap] <;> (try (intros; simp_all; done)) <;> (try omega)))
  ·have hne := hmin q (by omega) hqk
   have hne2 : ¬ ((it l g q v : Nat) : Int) = (to : Int) := fun e => hne (by omega)
   repeat' (first
  | ((first | refine zag ?_ | refine zb0 rfl ?_ | refine zak ?_ | fail); simp [hq0, hne, hne2, zaE, zaP, za6, za5, hxi, q1, q2, q3, q4, q7, q8, q9])
  | (refine ⟨by omega, ?_⟩)
  | ((first | refine zah ?_ | refine zai ?_ | fail); simp [hq0, hne, hne2, zaE, zaP, za6, za5, hxi, q1, q2, q3, q4, q7, q8, q9])
  | (refine zcM (hC _ (by kernel_rfl)) (hk _ ?_); clear hC hk C k; simp only [zao])
  | (refine zbZ rfl (by kernel_rfl) (by first | (simp [hn]; done) | (simp [hn]; omega) | fail) fun C k hC hk => ?_; simp [hq0, hne, hne2, zaE, zaP, za6, za5, hxi, q1, q2, q3, q4, q7, q8, q9])
  | (refine zat ?_; simp [hq0, hne, hne2, zaE, zaP, za6, za5, hxi, q1, q2, q3, q4, q7, q8, q9])
  | (refine zar ?_; simp only [zao])
  | fail)
   refine LoopW.next ⟨q + 1, by omega⟩ (by simp; omega) ?_
   exact (Wk.zrW (M + 6) (M + 8) rfl (by simp [hn]) (by simp [hn]) (by simp [zaq, zam, zav, zap]) (by simp [zjk, zeJ, St.lp, zal, zaa, getK, zac, zan, D.under, D.le, D.ren, zaq, zam, zav, zap] <;> (try (intros; simp_all; done)) <;> (try omega)) (by simp [wkR, zeF, zce, zcf, zcB, zet, zeJ, St.lp, zaa, getK, zac, zan, obR, leU, zb2, za4, Ob.under, D.under, D.le, D.ren, zaq, zam, zav, zap] <;> (try (intros; simp_all; done)) <;> (try omega)))
 obtain rfl : q = k := by omega
 have hq0 : ¬ q = 0 := by omega
 have hrr := zkB 3 (M + 6) (M + 7) (by omega) (pl l (-1) g q v) (by omega)
 rw [q9] at hrr
 rw [hto]
 repeat' (first
  | ((first | refine zag ?_ | refine zak ?_ | refine zah ?_ | refine zai ?_ | fail); simp [hq0, q9, del, zab, zaa])
  | (refine zau ?_; simp only [zao])
  | (refine za9 ?_; simp [zao])
  | (refine CallP.zs7 (hrr) (by simp [getK]) (by rfl) (by first | assumption | simp) (by rfl) (by simp) ?_; rintro d o n' hn' ⟨rfl, rfl, rfl⟩; (try simp at hn'); (try simp [hq0, q9, del, zab, zaa]))
  | fail)
 refine EndW.wk _ (Wk.frz (e := 3) (sz := 1) (M + 6) [] (us := (pl l (-1) g q v).reverse.map fun z => [U.int .i64 z]) (by simp [zaa]) (zdR _)) ?_
 simp [St.frz, St.frzS, frzS, fv, zaQ, frzObS, del, q9]
 refine EndW.wk { n := _, env := [(6, .u (.sl ((pl l (-1) g q v).reverse.map fun z => [U.int .i64 z])))], obs := [(5, .box [.u (.sl (l.map fun c => [.int .i64 c.A, .int .i64 c.B, .int .i64 c.N])), .u (.sl ((List.range m).map fun v => [.sl ((zgz (zcz l v)).map fun n => [.int .i64 n])])), .vec 1 m, .vec 3 m, .vec 4 m]), (1, .vec 3 1 (zbn (lst m g.val))), (3, .vec 3 1 (zbn (lst m (zhI (-1) g)))), (4, .vec 4 1 (zdh (bst m g.kn)))], next := M + 6 } (Wk.cut rfl (by simp [hn, St.lp]) (by simp [wkO, St.lp, zaa, getK, Ob.under, D.under, zad, zae, zaq, zam, zav, zap]) (by simp [wkU, St.lp, zal, zaa, getK, D.under, zaq, zam, zav, zap]) (by simp [wkE, St.lp, zal, zaa, getK, zaq, zam, zav, zap] <;> (try (intros; simp_all; done)) <;> (try (intros; omega)) <;> (try grind))) (EndW.here ?_)
 (first | (refine EndOK.fin (.inr rfl) ?_) | (refine EndOK.fin (.inl rfl) ?_)); simp [zaI, zaf, Tryz.results81]
 exact FinOK.here (by simp) ⟨by simp, by simp, rfl⟩
end Go.Proofs.YtepiegcjnaohjaaGreatDoor.Df
