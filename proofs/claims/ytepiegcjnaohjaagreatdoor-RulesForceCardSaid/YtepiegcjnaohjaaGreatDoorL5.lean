/- Texts joined by a program of mine: Do Dm UD Uf Ug Uh Ud Dh#p Dj#p Qa#p Dp#p Fa Ea#p Eb#p Qc UV Qm Dh Dl Qa Ft Ea Eb Ec#p Ed#p Qb#p Qd#p Dn Dp Dq. -/
import Derived.Test.YtepiegcjnaohjaaGreatDoorL4
set_option linter.all false
set_option maxRecDepth 100000
set_option maxHeartbeats 8000000
namespace Go.Proofs.YtepiegcjnaohjaaGreatDoor.Df
open Go Go.VL Go.Proofs
attribute [local simp] zc7 zb5 evPure opd uOf zaG St.put St.at getK binD binI binS binB nilD aggD zgO zhJ lookD lookR zcE Go.VL.nextD zcG zhP zhK zf0 zb4 mkV zbl zbf zbe zbd zc4 za9 zbt zbG mapEff zdk zfz Key.kk shiftI arith unD convD zdN loadD cellsAt fieldAddrD fieldD indexAddrD indexD sliceD cutD lenD minmaxD nilCheckD buildD fillD zb1 zdf ze2 setAll zcU zeF zcv zhx zcs St.add zaM zbP rowsOf zdH zcJ zam zac zaa zbi zcL zaK entry zbE zbI valD zb8 zcf zgD zdr zds zb2 zbK zaz zaX zbz delAll effD St.effS zc5 zbg zaZ zc6 zbh za1 zch za0 zaS zci zcV zbL zcb zbs zb9 zca zaR mkD zbk zbC zbQ zaz zcu D.ids Op.operands Call.operands zbu makeIfD makeFuncD typeAssertD zhI zdy zdz zhH zcF IntKind.bits zcO List.take_of_length_le List.range_succ
attribute [local irreducible] V G H HD HD2 zao Eff CallP CallV EndOK Fun Ret FinOK LoopI LoopW EndW
theorem zom (l : List Int) (hl : l.length ≤ 1000000) : Fun Tryz.prog 102 [.u (ints l)] (· = .u (ints l)) := by
 cases l with
 | nil =>
  (refine Fun.of_bodyW Tryz.func102 rfl (by simp) fun Γ hn => ?_); simp only [entry, ziC, ziN, maC, maN, oA, Tryz.ntmps102]
  simp only [ints, List.map_nil]
  refine zmL (x := 0) rfl ?_ (fun a cp => ?_)
  ·repeat' (first
  | ((first | refine zag ?_ | refine zak ?_ | refine zah ?_ | refine zai ?_ | fail); simp)
  | (refine zau ?_; simp only [zao])
  | fail)
   refine EndW.norm (EndW.here ?_)
   (refine EndOK.val (.inr rfl) ?_; simp [zaI, zaf, zaw, Tryz.results102, zaB, zaC, zcp, zcq, frz, za8, frzS, fv, zaQ, za2, za3, frzObS, zay, zas, zbS, zb6, zb7, zbc])
  ·repeat' (first
  | ((first | refine zag ?_ | refine zak ?_ | refine zah ?_ | refine zai ?_ | fail); simp)
  | ((first | refine zau ?_ | refine zar ?_ | fail); simp only [zao])
  | fail)
   (refine EndW.frzN 1 ?_; simp [frzN, frz1, zaC, zaB, St.frz, St.frzS, frzS, fv, zaQ, za2, za3, frzObS, zay, zas, del, frz, za8])
   refine EndW.norm (EndW.here ?_)
   (refine EndOK.val (.inr rfl) ?_; simp [zaI, zaf, zaw, Tryz.results102, zaB, zaC, zcp, zcq, frz, za8, frzS, fv, zaQ, za2, za3, frzObS, zay, zas, zbS, zb6, zb7, zbc])
 | cons x l =>
  simp only [List.length_cons] at hl
  (refine Fun.of_bodyW Tryz.func102 rfl (by simp) fun Γ hn => ?_); simp only [entry, ziC, ziN, maC, maN, oA, Tryz.ntmps102]
  simp only [ints, List.map_cons]
  repeat' (first
  | ((first | refine zag ?_ | refine zak ?_ | fail); simp)
  | (refine ⟨by omega, ?_⟩)
  | ((first | refine zah ?_ | refine zai ?_ | fail); simp)
  | ((first | refine zau ?_ | refine zar ?_ | fail); simp only [zao])
  | fail)
  (refine EndW.frzN 1 ?_; simp [frzN, frz1, zaC, zaB, St.frz, St.frzS, frzS, fv, zaQ, za2, za3, frzObS, zay, zas, del, frz, za8])
  refine EndW.here ?_
  (refine EndOK.val (.inr rfl) ?_; simp [zaI, zaf, zaw, Tryz.results102, zaB, zaC, zcp, zcq, frz, za8, frzS, fv, zaQ, za2, za3, frzObS, zay, zas, zbS, zb6, zb7, zbc])
def zdp (m : Nat) : List Int := zgA (List.range m)
theorem zed (m : Nat) : (zdp m).length = m := by simp [zdp]
theorem zgh (m : Nat) (x : Int) : x ∈ zdp m ↔ 0 ≤ x ∧ x < m ∧ zfu m x.toNat = true := by
 simp only [zdp, zgA, List.mem_map, List.mem_range, zfu, decide_eq_true_eq]
 constructor
 ·rintro ⟨i, hi, rfl⟩
  simp
  omega
 ·rintro ⟨h1, h2, _⟩
  exact ⟨x.toNat, by omega, by simp; omega⟩
theorem zoh (m : Nat) (hm : m ≤ 1000) : Fun Tryz.prog 79 [.u (.int .i64 m)] (· = .u (ints (zdp m))) := by
 simp only [ints]
 (refine Fun.of_bodyW Tryz.func79 rfl (by simp) fun Γ hn => ?_); simp only [entry, ziC, ziN, maC, maN, oA, Tryz.ntmps79]
 repeat' (first
  | ((first | refine zag ?_ | refine zak ?_ | refine zah ?_ | refine zaA ?_ | fail); simp)
  | fail)
 refine zmK _ (Wk.own 3 3 1 (by decide) rfl) ?_
 simp [St.own]
 refine zcg (α := { k : Nat // k ≤ m }) [5] (fun k => [(3, .vec 0 k.1), (6, .u (.int .i64 k.1))]) (fun k => [(0, .vec 3 1 (zbn (zdp k.1)))]) 1 (fun k => m - k.1) ⟨0, by omega⟩ ?_ ?_
 ·exact (Wk.cut rfl (by simp [hn, St.lp]) (by simp [wkO, St.lp, zaa, getK, Ob.under, D.under, zad, zae, zaq, zan, zdp, zbn]) (by simp [wkU, St.lp, zal, zaa, getK, D.under, zaq, zan, zdp, zbn]) (by simp [wkE, St.lp, zal, zaa, getK, zaq, zan, zdp, zbn] <;> (try (intros; simp_all; done)) <;> (try (intros; omega)) <;> (try grind)))
 rintro ⟨k, hk⟩
 simp [St.lp, St.only, zal, zaa, getK]
 by_cases hlt : k < m
 ·have q7 : zbn (zdp k) ++ [[D.u (.int .i64 (k : Int))]] = zbn (zdp (k + 1)) := by simp [zdp, zbn, List.range_succ]
  have q8 := zdJ (zdp k)
  have q9 := zed k
  repeat' (first
  | ((first | refine zag ?_ | refine zak ?_ | fail); simp [hlt, zaE, q7, q8, q9])
  | (refine ⟨by omega, ?_⟩)
  | ((first | refine zah ?_ | refine zat ?_ | fail); simp [hlt, zaE, q7, q8, q9])
  | (refine zar ?_; simp only [zao])
  | fail)
  refine LoopW.next ⟨k + 1, by omega⟩ (by simp; omega) ?_
  exact (Wk.zr4 (0) (2) rfl (by simp [hn]) (by simp [hn]) (by simp [zaq, zan]) (by simp [ziB, zeJ, St.lp, zal, zaa, getK, zac, zam, D.under, D.le, D.ren, zaq, zan] <;> (try (intros; simp_all; done)) <;> (try omega)) (by simp [wkR, zeG, zcd, zce, zcA, zet, zeJ, St.lp, zaa, getK, zac, zam, obR, leU, zbR, zaT, Ob.under, D.under, D.le, D.ren, zaq, zan] <;> (try (intros; simp_all; done)) <;> (try omega)))
 ·obtain rfl : k = m := by omega
  have q9 := zed k
  repeat' (first
  | ((first | refine zag ?_ | refine zak ?_ | refine zah ?_ | fail); simp [hlt])
  | (refine zau ?_; simp only [zao])
  | (refine za6 ?_; simp [zao])
  | fail)
  refine EndW.wk _ (Wk.frz 0 [] (us := (zdp k).map fun z => [U.int .i64 z]) rfl (zdS _)) ?_
  simp [St.frz, St.frzS, frzS, fv, zaQ, frzObS, del, q9]
  refine EndW.norm (EndW.here ?_)
  (refine EndOK.val (.inr rfl) ?_; simp [zaI, zaf, zaw, Tryz.results79, zaB, zaC, zcp, zcq, frz, za8, frzS, fv, zaQ, za2, za3, frzObS, zay, zas, zbS, zb6, zb7, zbc, q9])
theorem zkC (t j nx : Nat) (hj : j < nx) (zs : List Int) (hz : zs.length ≤ 1099511627776) : Ret Tryz.prog 146 [.vec j zs.length] [(j, .vec t 1 (zbn zs))] nx
  fun d obs nx' => d = .tup [] ∧ obs = [(j, .vec t 1 (zbn zs.reverse))] ∧ nx' = nx :=
 Ret.zrj (ret := fun _ _ => .tuple #[]) hj (by simp) (by simp only [maxLen]; omega) (fun blk cap w hH hb _ _ => (Tryz.slices_Reverse_int blk 0 cap zs w hH (by omega)).mono fun e w' ⟨h1, q, h2⟩ => ⟨h1, q, #[], by rw [h2, Go.Sort.grow_empty]⟩)
  (fun h0 p cap w => by subst h0; exact Tryz.slices_Reverse_int_empty p cap w) (.inl ⟨rfl, fun _ _ => rfl⟩)
end Go.Proofs.YtepiegcjnaohjaaGreatDoor.Df
namespace Go.Proofs.YtepiegcjnaohjaaGreatDoor.Df
open Go Go.VL
attribute [local simp] zc7 zb5 evPure opd uOf zaG St.put St.at getK binD binI binS binB nilD aggD zgO zhJ lookD lookR zcE Go.VL.nextD zcG zhP zhK zf0 zb4 mkV zbl zbf zbe zbd zc4 za9 zbt zbG mapEff zdk zfz Key.kk shiftI arith unD convD zdN loadD cellsAt fieldAddrD fieldD indexAddrD indexD sliceD cutD lenD minmaxD nilCheckD buildD fillD zb1 zdf ze2 setAll zcU zeF zcv zhx zcs St.add zaM zbP rowsOf zdH zcJ zam zac zaa zbi zcL zaK entry zbE zbI valD zb8 zcf zgD zdr zds zb2 zbK zaz zaX zbz delAll effD St.effS zc5 zbg zaZ zc6 zbh za1 zch za0 zaS zci zcV zbL zcb zbs zb9 zca zaR mkD zbk zbC zbQ zaz zcu D.ids Op.operands Call.operands zbu makeIfD makeFuncD typeAssertD zhI zdy zdz zhH zcF IntKind.bits zcO List.take_of_length_le List.range_succ
attribute [local irreducible] V G H HD HD2 zao Eff CallP CallV EndOK Fun Ret FinOK LoopI LoopW EndW
end Go.Proofs.YtepiegcjnaohjaaGreatDoor.Df
namespace Go.Proofs.YtepiegcjnaohjaaGreatDoor
open Go Go.VL
attribute [local simp] zc7 zb5 evPure opd uOf zaG St.put St.at getK binD binI binS binB nilD aggD zgO zhJ lookD lookR zcE Go.VL.nextD zcG zhP zhK zf0 zb4 mkV zbl zbf zbe zbd zc4 za9 zbt zbG mapEff zdk zfz Key.kk shiftI arith unD convD zdN loadD cellsAt fieldAddrD fieldD indexAddrD indexD sliceD cutD lenD minmaxD nilCheckD buildD fillD zb1 zdf ze2 setAll zcU zeF zcv zhx zcs St.add zaM zbP rowsOf zdH zcJ zam zac zaa zbi zcL zaK entry zbE zbI valD zb8 zcf zgD zdr zds zb2 zbK zaz zaX zbz delAll effD St.effS zc5 zbg zaZ zc6 zbh za1 zch za0 zaS zci zcV zbL zcb zbs zb9 zca zaR mkD zbk zbC zbQ zaz zcu D.ids Op.operands Call.operands zbu makeIfD makeFuncD typeAssertD zhI zdy zdz zhH zcF IntKind.bits zcO List.take_of_length_le List.range_succ
attribute [local irreducible] V G H HD HD2 zao Eff CallP CallV EndOK Fun Ret FinOK LoopI LoopW EndW
def zgs (l : Let) : List U := [.str l.name, .int .i64 l.body.op, .int .i64 l.body.n, .int .i64 l.body.unit, .str l.body.s, .sl (l.body.args.map Exp.row)]
def zpl (l : Let) : D := .u (.agg [.str l.name, .int .i64 l.body.op, .int .i64 l.body.n, .int .i64 l.body.unit, .str l.body.s, .sl (l.body.args.map Exp.row)])
def zeO (l : List Let) : U := .sl (l.map fun l => [.str l.name, .int .i64 l.body.op, .int .i64 l.body.n, .int .i64 l.body.unit, .str l.body.s, .sl (l.body.args.map Exp.row)])
theorem zmo (l : List (Let)) (f : FuncId) (caps : List U) (p : Let → Bool) (hf : ∀ n ∈ l, Fun Tryz.prog f (zpl n :: caps.map .u) (· = .u (.bool (p n)))) (hcl : zaj Tryz.prog f = true)
  (hca : ∀ o, zcf o (caps.map .u) = some (caps.map .u, [])) : Fun Tryz.prog 151 [.u (zeO l), .fnc (.func f) (caps.map .u)] (· = .u (.int .i64 (ze7 p l 0))) := by
 (refine Fun.of_body Tryz.func151 rfl (by simp) fun Γ hn => ?_); simp only [entry, ziC, ziN, maC, maN, oA, Tryz.ntmps151]
 simp only [zeO]
 refine zgE (x := 0) rfl fun hl => ?_
 simp at hl
 repeat' (first
  | ((first | refine zag ?_ | refine zak ?_ | refine zah ?_ | refine zaA ?_ | fail); simp)
  | fail)
 refine zbT (α := { i : Nat // i ≤ l.length ∧ ∀ c ∈ l.take i, p c = false }) [0, 1, 7] (fun i => [(8, .u (.int .i64 i.1))]) (fun i => l.length - i.1) ⟨0, by omega, by simp⟩ ?_ ?_
 ·exact (Wk.env rfl rfl rfl (by simp [wkE, St.lp, zal, zaa, getK] <;> (try (intros; simp_all; done)) <;> (try (intros; omega)) <;> (try grind)))
 rintro ⟨i, hi, hb⟩
 simp [St.lp, St.only, zal, zaa, getK]
 rcases hx : l[i]? with _ | n
 ·have hge : l.length ≤ i := by simpa using hx
  repeat' (first
  | ((first | refine zag ?_ | refine zak ?_ | fail); simp [hx])
  | (refine ⟨by omega, ?_⟩)
  | (refine zah ?_; simp [hx])
  | (refine zau ?_; simp only [zao])
  | (refine za6 ?_; simp [zao])
  | (intro hc <;> (try (exfalso; omega)))
  | fail)
  (refine EndOK.val (.inr rfl) ?_; simp [zaI, zaf, zaw, Tryz.results151])
  rw [List.take_of_length_le hge] at hb
  exact (zdn hb).symm
 ·have hlt : i < l.length := (lGE.1 hx).1
  have h1 := hf n (List.mem_of_getElem? hx)
  simp only [zpl] at h1
  cases hp : p n
  ·rw [hp] at h1
   repeat' (first
  | ((first | refine zag ?_ | refine zak ?_ | fail); simp [hx, hca])
  | (refine ⟨by omega, ?_⟩)
  | ((first | refine zah ?_ | refine zai ?_ | refine zat ?_ | fail); simp [hx, hca])
  | (refine zar ?_; simp only [zao])
  | (refine ⟨?_, by omega⟩)
  | (intro hc <;> (try (exfalso; omega)))
  | (refine CallP.fE (h1) (by first | rfl | fail) (by first | simp [hx, hca] <;> rfl | fail) ?_; (try simp [hcl, hx, hca]))
  | fail)
   refine LoopW.next ⟨i + 1, by omega, zaY hx hb hp⟩ (by simp; omega) ?_
   exact (Wk.env rfl rfl rfl (by simp [wkE, St.lp, zal, zaa, getK] <;> (try (intros; simp_all; done)) <;> (try (intros; omega)) <;> (try grind)))
  ·rw [hp] at h1
   repeat' (first
  | ((first | refine zag ?_ | refine zak ?_ | refine zah ?_ | refine zai ?_ | fail); simp [hx, hca])
  | ((first | refine zau ?_ | refine zar ?_ | fail); simp only [zao])
  | (refine ⟨?_, by omega⟩)
  | (intro hc <;> (try (exfalso; omega)))
  | (refine CallP.fE (h1) (by first | rfl | fail) (by first | simp [hx, hca] <;> rfl | fail) ?_; (try simp [hcl, hx, hca]))
  | fail)
   (refine EndOK.val (.inr rfl) ?_; simp [zaI, zaf, zaw, Tryz.results151])
   rw [zeQ hb hx hp]
   omega
theorem zeu (l : List (Let)) (f : FuncId) (caps : List U) (p : Let → Bool) (hf : ∀ n ∈ l, Fun Tryz.prog f (zpl n :: caps.map .u) (· = .u (.bool (p n)))) (hcl : zaj Tryz.prog f = true)
  (hca : ∀ o, zcf o (caps.map .u) = some (caps.map .u, [])) (hcb : ∀ o, zbK o (caps.map .u) = some (caps, [])) : Fun Tryz.prog 90 [.u (zeO l), .fnc (.func f) (caps.map .u)] (· = .u (.bool (l.any p))) := by
 have h1 := zmo l f caps p hf hcl hca
 (refine Fun.of_body Tryz.func90 rfl (by simp) fun Γ hn => ?_); simp only [entry, ziC, ziN, maC, maN, oA, Tryz.ntmps90]
 simp only [zeO] at h1 ⊢
 repeat' (first
  | ((first | refine zag ?_ | refine zak ?_ | refine zah ?_ | fail); simp [hcb])
  | (refine zau ?_; simp only [zao])
  | (refine CallP.fE (h1) (by first | rfl | fail) (by first | simp [hcb] <;> rfl | fail) ?_; (try simp [hcl, hcb]))
  | fail)
 (refine EndOK.val (.inr rfl) ?_; simp [zaI, zaf, zaw, Tryz.results90])
 have h2 := zeq p l 0 (by omega)
 rw [Bool.eq_iff_iff]
 simpa using h2
theorem zmB (u n : Int) : Fun Tryz.prog 276 (zms u :: [U.row [.int .i64 n] 0].map .u) (· = .u (.bool (decide (u ≠ n)))) := by
 simp only [zms, List.map_cons, List.map_nil]
 (refine Fun.of_body Tryz.func276 rfl (by simp) fun Γ hn => ?_); simp only [entry, ziC, ziN, maC, maN, oA, Tryz.ntmps276]
 repeat' (first
  | ((first | refine zag ?_ | refine zak ?_ | refine zah ?_ | fail); simp)
  | (refine zau ?_; simp only [zao])
  | fail)
 (refine EndOK.val (.inr rfl) ?_; simp [zaI, zaf, zaw, Tryz.results276])
def zhM (u : Int) (l : List Int) : Bool := !l.any fun n => decide (n ≠ u)
theorem zhu (u : Int) (l : List Int) : Fun Tryz.prog 275 [.u (.int .i64 u), .u (.row [ints l] 0)] (· = .u (.bool (zhM u l))) := by
 have h1 := zev l 276 [U.row [.int .i64 u] 0] _ (fun n _ => zmB n u) (by simp) (fun _ => rfl) (fun _ => rfl)
 simp only [List.map_cons, List.map_nil] at h1
 unfold zhM
 (refine Fun.of_body Tryz.func275 rfl (by simp) fun Γ hn => ?_); simp only [entry, ziC, ziN, maC, maN, oA, Tryz.ntmps275]
 simp only [ints] at h1 ⊢
 repeat' (first
  | ((first | refine zag ?_ | refine zak ?_ | refine zah ?_ | fail); simp)
  | (refine zau ?_; simp only [zao])
  | (refine CallP.fE (h1) (by first | rfl | fail) (by first | (simp; done) | (simp; rfl) | fail) ?_; (try simp))
  | fail)
 (refine EndOK.val (.inr rfl) ?_; simp [zaI, zaf, zaw, Tryz.results275])
def zna (a b : Int) : Int × Bool := if a = 0 ∨ b = 0 then (0, false) else if a = 4 then (b, true) else if b = 4 then (a, true) else if a = 1 then (b, true) else if b = 1 then (a, true) else (0, false)
theorem zo2 (a b : Int) : Fun Tryz.prog 277 [.u (.int .i64 a), .u (.int .i64 b)] (· = .tup [.u (.int .i64 (zna a b).1), .u (.bool (zna a b).2)]) := by
 (refine Fun.of_body Tryz.func277 rfl (by simp) fun Γ hn => ?_); simp only [entry, ziC, ziN, maC, maN, oA, Tryz.ntmps277]
 unfold zna
 repeat' (first
  | ((first | refine zag ?_ | refine zak ?_ | refine zah ?_ | refine zai ?_ | refine zaA ?_ | fail); simp [zbI, zbE])
  | ((first | refine zau ?_ | refine zar ?_ | fail); simp only [zao])
  | (refine ⟨fun hc => ?_, fun hc => ?_⟩ <;> (try (exfalso; omega)))
  | fail)
 all_goals try ((refine EndOK.val (.inr rfl) ?_; simp [zaI, zaf, zaw, Tryz.results277]); simp_all; done)
 all_goals
  refine zbT (α := { i : Nat // i ≤ 2 ∧ (1 ≤ i → a ≠ 4 ∧ b ≠ 4) ∧ (2 ≤ i → a ≠ 1 ∧ b ≠ 1) }) [0, 1, 14, 15] (fun i => [(16, .u (.int .i64 i.1))]) (fun i => 2 - i.1) ⟨0, by omega, by omega, by omega⟩ ?_ ?_
  ·exact (Wk.cut rfl (by simp [hn, St.lp]) (by simp [wkO, St.lp, zaa, getK, Ob.under, D.under, zad, zae]) (by simp [wkU, St.lp, zal, zaa, getK, D.under]) (by simp [wkE, St.lp, zal, zaa, getK] <;> (try (intros; simp_all; done)) <;> (try (intros; omega)) <;> (try grind)))
  rintro ⟨i, hi, h1, h2⟩
  simp [St.lp, St.only, zal, zaa, getK]
  have : i = 0 ∨ i = 1 ∨ i = 2 := by omega
  rcases this with rfl | rfl | rfl
  ·repeat' (first
  | ((first | refine zag ?_ | refine zak ?_ | refine zah ?_ | refine zai ?_ | refine zat ?_ | fail); simp)
  | ((first | refine zau ?_ | refine zar ?_ | fail); simp only [zao])
  | (refine ⟨fun hc => ?_, fun hc => ?_⟩ <;> (try (exfalso; omega)))
  | fail)
   ·(refine EndOK.val (.inr rfl) ?_; simp [zaI, zaf, zaw, Tryz.results277])
    simp_all
   ·(refine EndOK.val (.inr rfl) ?_; simp [zaI, zaf, zaw, Tryz.results277])
    simp_all
   ·refine LoopW.next ⟨1, by omega, by omega, by omega⟩ (by simp) ?_
    exact (Wk.cut rfl (by simp [hn, St.lp]) (by simp [wkO, St.lp, zaa, getK, Ob.under, D.under, zad, zae]) (by simp [wkU, St.lp, zal, zaa, getK, D.under]) (by simp [wkE, St.lp, zal, zaa, getK] <;> (try (intros; simp_all; done)) <;> (try (intros; omega)) <;> (try grind)))
  ·repeat' (first
  | ((first | refine zag ?_ | refine zak ?_ | refine zah ?_ | refine zai ?_ | refine zat ?_ | fail); simp)
  | ((first | refine zau ?_ | refine zar ?_ | fail); simp only [zao])
  | (refine ⟨fun hc => ?_, fun hc => ?_⟩ <;> (try (exfalso; omega)))
  | fail)
   ·(refine EndOK.val (.inr rfl) ?_; simp [zaI, zaf, zaw, Tryz.results277])
    simp_all
   ·(refine EndOK.val (.inr rfl) ?_; simp [zaI, zaf, zaw, Tryz.results277])
    simp_all
   ·refine LoopW.next ⟨2, by omega, by omega, by omega⟩ (by simp) ?_
    exact (Wk.cut rfl (by simp [hn, St.lp]) (by simp [wkO, St.lp, zaa, getK, Ob.under, D.under, zad, zae]) (by simp [wkU, St.lp, zal, zaa, getK, D.under]) (by simp [wkE, St.lp, zal, zaa, getK] <;> (try (intros; simp_all; done)) <;> (try (intros; omega)) <;> (try grind)))
  ·repeat' (first
  | ((first | refine zag ?_ | refine zak ?_ | refine zah ?_ | fail); simp)
  | (refine zau ?_; simp only [zao])
  | (refine za6 ?_; simp [zao])
  | fail)
   (refine EndOK.val (.inr rfl) ?_; simp [zaI, zaf, zaw, Tryz.results277])
   simp_all
def l0 (l : List Int) (i : Nat) : Int := l.getD i 0
def zhX (op : Int) (l : List Int) : Int × Bool :=
 if op = 2 ∨ op = 3 ∨ op = 6 ∨ op = 7 then (l0 l 0, zhM (l0 l 0) l && decide (l0 l 0 ≠ 0))
 else if op = 4 then zna (l0 l 0) (l0 l 1)
 else if op = 5 then (if l0 l 1 = 1 then (l0 l 0, decide (l0 l 0 ≠ 0) && decide (l0 l 0 ≠ 4)) else (1, zhM (l0 l 0) l && (decide (l0 l 0 = 3) || decide (l0 l 0 = 2))))
 else if op = 8 then (0, zhM (l0 l 0) l && decide (l0 l 0 ≠ 0))
 else if op = 9 then (0, zhM (l0 l 0) l)
 else if op = 13 then (l0 l 1, decide (l0 l 0 = 0) && decide (l0 l 1 = l0 l 2))
 else (0, zhM 0 l)
theorem zuc {l : List Int} (h : (l.length : Int) = 1) : ∃ a, l = [a] := List.length_eq_one_iff.1 (by omega)
theorem zub {l : List Int} (h : (l.length : Int) = 2) : ∃ a b, l = [a, b] := by
 match l, h with
 | [], h => simp at h
 | [a], h => simp at h
 | [a, b], _ => exact ⟨a, b, rfl⟩
 | a :: b :: c :: l, h => simp at h; omega
theorem zua {l : List Int} (h : (l.length : Int) = 3) : ∃ a b c, l = [a, b, c] := by
 match l, h with
 | [], h => simp at h
 | [a], h => simp at h
 | [a, b], h => simp at h
 | [a, b, c], _ => exact ⟨a, b, c, rfl⟩
 | a :: b :: c :: d :: l, h => simp at h; omega
theorem zpI (op : Int) (l : List Int) (hop : 2 ≤ op ∧ op < 14) (hl : (l.length : Int) = zb3 op) : Fun Tryz.prog 229 [.u (.int .i64 op), .u (ints l)] (· = .tup [.u (.int .i64 (zhX op l).1), .u (.bool (zhX op l).2)]) := by
 have h12 : op = 12 ∨ op = 13 ∨ op = 2 ∨ op = 3 ∨ op = 4 ∨ op = 5 ∨ op = 6 ∨ op = 7 ∨ op = 8 ∨ op = 9 ∨ op = 10 ∨ op = 11 := by omega
 rcases h12 with rfl | rfl | h12
 ·obtain ⟨a, rfl⟩ := zuc (hl.trans rfl)
  have h1 := zhu 0 [a]
  simp only [zhX, l0]
  generalize zhM 0 [a] = o1 at h1 ⊢
  (refine Fun.of_body Tryz.func229 rfl (by simp) fun Γ hn => ?_); simp only [entry, ziC, ziN, maC, maN, oA, Tryz.ntmps229]
  simp only [ints, List.map_cons, List.map_nil] at h1 ⊢
  repeat' (first
  | ((first | refine zag ?_ | refine zak ?_ | refine zah ?_ | refine zai ?_ | refine zaA ?_ | refine zat ?_ | fail); simp)
  | ((first | refine zau ?_ | refine zar ?_ | fail); simp only [zao])
  | (refine CallP.fE (h1) (by first | rfl | fail) (by first | (simp; done) | (simp; rfl) | fail) ?_; (try simp))
  | fail)
  all_goals
   (refine EndOK.val (.inr rfl) ?_; simp [zaI, zaf, zaw, Tryz.results229])
 ·obtain ⟨a, b, c, rfl⟩ := zua (hl.trans rfl)
  simp only [zhX, l0]
  (refine Fun.of_body Tryz.func229 rfl (by simp) fun Γ hn => ?_); simp only [entry, ziC, ziN, maC, maN, oA, Tryz.ntmps229]
  simp only [ints, List.map_cons, List.map_nil]
  repeat' (first
  | ((first | refine zag ?_ | refine zbW ?_ | refine zak ?_ | refine zah ?_ | refine zai ?_ | fail); simp)
  | (refine zcH ?_)
  | (refine hk _ ?_; clear hk k; simp only [zao])
  | (refine zbV rfl (by kernel_rfl) (by kernel_rfl) fun k hk => ?_; simp)
  | (refine zdV rfl (by simp) (fun hc => ?_) (fun hc => ?_) <;> (try simp at hc) <;> (try (exfalso; omega)) <;> (try simp))
  | ((first | refine zaA ?_ | refine zat ?_ | fail); simp)
  | (refine zau ?_; simp only [zao])
  | fail)
  all_goals
   (refine EndOK.val (.inr rfl) ?_; simp [zaI, zaf, zaw, Tryz.results229])
  all_goals (simp_all; done)
 ·obtain ⟨a, b, rfl⟩ := zub (l := l) (by rw [hl]; rcases h12 with rfl | rfl | rfl | rfl | rfl | rfl | rfl | rfl | rfl | rfl <;> rfl)
  clear hl hop
  have h1 := zhu a [a, b]
  have h2 := zhu 0 [a, b]
  have h3 := zo2 a b
  have e0 : l0 [a, b] 0 = a := rfl
  have e1 : l0 [a, b] 1 = b := rfl
  unfold zhX
  rw [e0, e1]
  clear e0 e1
  generalize zhM a [a, b] = o1 at h1 ⊢
  generalize zhM 0 [a, b] = o2 at h2 ⊢
  generalize zna a b = p at h3 ⊢
  simp only [ints, List.map_cons, List.map_nil] at h1 h2 ⊢
  rcases h12 with rfl | rfl | rfl | rfl | rfl | rfl | rfl | rfl | rfl | rfl
  all_goals
   (refine Fun.of_body Tryz.func229 rfl (by simp) fun Γ hn => ?_); simp only [entry, ziC, ziN, maC, maN, oA, Tryz.ntmps229]
   repeat' (first
  | ((first | refine zag ?_ | refine zbW ?_ | refine zak ?_ | refine zah ?_ | refine zai ?_ | fail); simp)
  | (refine zcH ?_)
  | (refine hk _ ?_; clear hk k; simp only [zao])
  | (refine zbV rfl (by kernel_rfl) (by kernel_rfl) fun k hk => ?_; simp)
  | (refine zoJ rfl (by simp) ?_; simp)
  | (refine zdV rfl (by simp) (fun hc => ?_) (fun hc => ?_) <;> (try simp at hc) <;> (try (exfalso; omega)) <;> (try simp))
  | ((first | refine zaA ?_ | refine zat ?_ | fail); simp)
  | ((first | refine zau ?_ | refine zar ?_ | fail); simp only [zao])
  | (refine ⟨fun hc => ?_, fun hc => ?_⟩ <;> (try (exfalso; omega)))
  | (refine CallV.fun_ (h1) (by first | rfl | fail) (by first | (simp; done) | (simp; rfl) | fail) ?_ <;> (try simp))
  | (refine CallP.fE (h1) (by first | rfl | fail) (by first | (simp; done) | (simp; rfl) | fail) ?_; (try simp))
  | (refine CallP.fE (h2) (by first | rfl | fail) (by first | (simp; done) | (simp; rfl) | fail) ?_; (try simp))
  | (refine CallV.fun_ (h3) (by first | rfl | fail) (by first | (simp; done) | (simp; rfl) | fail) ?_ <;> (try simp))
  | fail)
   all_goals
    (refine EndOK.val (.inr rfl) ?_; simp [zaI, zaf, zaw, Tryz.results229])
   all_goals (clear h1 h2 h3; first | (simp_all; done) | (grind) | skip)
def asc {β : Type} : List (List UInt8 × β) → List UInt8 → Option β
 | [], _ => none
 | (k, b) :: l, x => if x = k then some b else asc l x
def zfT {β : Type} : List (List UInt8 × β) → List UInt8 → β → List (List UInt8 × β)
 | [], x, b => [(x, b)]
 | (k, c) :: l, x, b => if x = k then (k, b) :: l else (k, c) :: zfT l x b
theorem zhi {β : Type} (f : β → List U) (x : List UInt8) : ∀ (l : List (List UInt8 × β)), zb4 (l.map fun p => (Key.s p.1, f p.2)) (.s x) = (asc l x).map f
 | [] => rfl
 | (k, b) :: l => by
  simp only [List.map_cons, zb4, asc, Key.s.injEq]
  split
  ·rfl
  ·exact zhi f x l
theorem ziG {β : Type} (f : β → List U) (x : List UInt8) (b : β) : ∀ (l : List (List UInt8 × β)), zdk (l.map fun p => (Key.s p.1, f p.2)) (.s x) (f b) = (zfT l x b).map fun p => (Key.s p.1, f p.2)
 | [] => rfl
 | (k, c) :: l => by
  simp only [List.map_cons, zdk, zfT, Key.s.injEq]
  split
  ·rfl
  ·simp only [List.map_cons]; rw [ziG f x b l]
mutual
/-- The unit of an expression, or an error. -/
def zdW (g : List UInt8 → Option Int) (m : List UInt8 → Option (Int × Int)) : Exp → Int × Int
 | .mk op _ u s args =>
  if op = 0 then (u, 0)
  else if op = 1 then (match g s with | some u => (u, 0) | none => match m s with | some r => r | none => (0, 13))
  else match zfC g m args with
   | .error b => (0, b)
   | .ok l => if (zhX op l).2 = true then ((zhX op l).1, 0) else (0, 14)
def zfC (g : List UInt8 → Option Int) (m : List UInt8 → Option (Int × Int)) : List Exp → Except Int (List Int)
 | [] => .ok []
 | e :: r => if (zdW g m e).2 ≠ 0 then .error (zdW g m e).2 else match zfC g m r with
  | .error b => .error b
  | .ok l => .ok ((zdW g m e).1 :: l)
end
theorem ziJ (g m) (e : Exp) : zdW g m e = if e.op = 0 then (e.unit, 0)
  else if e.op = 1 then (match g e.s with | some u => (u, 0) | none => match m e.s with | some r => r | none => (0, 13))
  else match zfC g m e.args with
   | .error b => (0, b)
   | .ok l => if (zhX e.op l).2 = true then ((zhX e.op l).1, 0) else (0, 14) := by
 cases e with | mk op n u s args => rw [zdW]; rfl
theorem zjp {g m} : ∀ {l : List Exp}, (∀ x ∈ l, (zdW g m x).2 = 0) → zfC g m l = .ok (l.map fun x => (zdW g m x).1)
 | [], _ => by rw [zfC]; rfl
 | e :: r, h => by
  rw [zfC, if_neg (by simp [h e (by simp)]), zjp fun x hx => h x (by simp [hx])]
  rfl
theorem zh2 {g m} : ∀ {l : List Exp} {i : Nat} {e : Exp}, l[i]? = some e → (∀ x ∈ l.take i, (zdW g m x).2 = 0) → (zdW g m e).2 ≠ 0 → zfC g m l = .error (zdW g m e).2
 | [], i, e, h, _, _ => by simp at h
 | a :: r, 0, e, h, _, h2 => by
  simp at h
  subst h
  rw [zfC, if_pos h2]
 | a :: r, i + 1, e, h, h1, h2 => by
  rw [zfC, if_neg (by simp [h1 a (by simp)]), zh2 (l := r) (i := i) (by simpa using h) (fun x hx => h1 x (by simp [hx])) h2]
mutual
/-- Whether an expression is a share. -/
def zgq (m : List UInt8 → Bool) : Exp → Bool
 | .mk op _ u s args =>
  if op = 0 then decide (u = 4)
  else if op = 1 then m s
  else if op = 2 ∨ op = 3 ∨ op = 6 ∨ op = 7 then zdD m args 0
  else if op = 4 then zdD m args 0 && zdD m args 1
  else if op = 13 then zdD m args 1
  else false
def zdD (m : List UInt8 → Bool) : List Exp → Nat → Bool
 | [], _ => false
 | e :: _, 0 => zgq m e
 | _ :: r, n + 1 => zdD m r n
end
theorem zm6 (m) (e : Exp) : zgq m e = if e.op = 0 then decide (e.unit = 4)
  else if e.op = 1 then m e.s
  else if e.op = 2 ∨ e.op = 3 ∨ e.op = 6 ∨ e.op = 7 then zdD m e.args 0
  else if e.op = 4 then zdD m e.args 0 && zdD m e.args 1
  else if e.op = 13 then zdD m e.args 1
  else false := by
 cases e with | mk op n u s args => rw [zgq]; rfl
/-- What is known of a let: its unit, its error, whether it is a share. -/
abbrev LM := List (List UInt8 × Int × Int × Bool)
abbrev GM := List (List UInt8 × Int)
def zpy (g : GM) : List (Key × List U) := g.map fun p => (Key.s p.1, [U.int .i64 p.2])
def zqo (m : LM) : List (Key × List U) := m.map fun p => (Key.s p.1, [U.int .i64 p.2.1, .int .i64 p.2.2.1, .bool p.2.2.2])
theorem zqn (g : GM) (x : List UInt8) : zb4 (zpy g) (.s x) = (asc g x).map fun u => [U.int .i64 u] := zhi (fun u : Int => [U.int .i64 u]) x g
theorem zqm (g : LM) (x : List UInt8) : zb4 (zqo g) (.s x) = (asc g x).map fun q => [U.int .i64 q.1, .int .i64 q.2.1, .bool q.2.2] := zhi (fun q : Int × Int × Bool => [U.int .i64 q.1, .int .i64 q.2.1, .bool q.2.2]) x g
def jU (g : GM) (m : LM) : U := .row [.map .s false (zpy g), .map .s true (zqo m)] 0
def gF (g : GM) : List UInt8 → Option Int := asc g
def mF (m : LM) : List UInt8 → Option (Int × Int) := fun x => (asc m x).map fun q => (q.1, q.2.1)
def sF (m : LM) : List UInt8 → Bool := fun x => ((asc m x).map fun q => q.2.2).getD false
theorem zh6 {d : Nat} {e : Exp} (h : zbx (d + 1) e = true) : (e.args.length : Int) = zb3 e.op ∧ 0 ≤ e.op ∧ e.op < 14 ∧ (e.op ≠ 0 → e.op ≠ 1 → ∀ x ∈ e.args, zbx d x = true) := by
 rw [zbx, Bool.and_eq_true, decide_eq_true_eq] at h
 obtain ⟨h1, h2⟩ := h
 have h3 : 0 ≤ e.op ∧ e.op < 14 := by
  unfold zb3 at h1
  split at h1
  ·omega
  ·split at h1
   ·omega
   ·split at h1
    ·omega
    ·split at h1
     ·omega
     ·omega
 refine ⟨h1, h3.1, h3.2, fun ha hb x hx => ?_⟩
 rw [if_neg ha] at h2
 split at h2
 ·cases h2
 ·simp only [if_neg hb, Bool.and_eq_true, Bool.not_eq_true', List.any_eq_false, Bool.not_eq_true] at h2
  have := h2.2 x hx
  simpa using this
theorem ziI (g : GM) (m : LM) : ∀ (d : Nat) (e : Exp), zbx d e = true → Fun Tryz.prog 180 [.u (jU g m), zes e] (· = .tup [.u (.int .i64 (zdW (gF g) (mF m) e).1), .u (.int .i64 (zdW (gF g) (mF m) e).2)])
 | 0, e, h => by simp [zbx] at h
 | d + 1, e, h => by
  obtain ⟨h1, h2, h3, h4⟩ := zh6 h
  have hg := zqn g e.s
  have hm := zqm m e.s
  by_cases h0 : e.op = 0
  ·rw [ziJ, if_pos h0]
   (refine Fun.of_body Tryz.func180 rfl (by simp) fun Γ hn => ?_); simp only [entry, ziC, ziN, maC, maN, oA, Tryz.ntmps180]
   simp only [zes, jU]
   repeat' (first
  | ((first | refine zag ?_ | refine zak ?_ | refine zah ?_ | refine zai ?_ | refine zaA ?_ | fail); simp [h0])
  | (refine zau ?_; simp only [zao])
  | fail)
   (refine EndOK.val (.inr rfl) ?_; simp [zaI, zaf, zaw, Tryz.results180])
  by_cases hnm : e.op = 1
  ·rw [ziJ, if_neg h0, if_pos hnm]
   (refine Fun.of_body Tryz.func180 rfl (by simp) fun Γ hn => ?_); simp only [entry, ziC, ziN, maC, maN, oA, Tryz.ntmps180]
   simp only [zes, jU]
   cases hga : asc g e.s with
   | some u =>
    rw [hga] at hg
    simp only [Option.map_some] at hg
    repeat' (first
  | ((first | refine zag ?_ | refine zbW ?_ | refine zak ?_ | refine zah ?_ | refine zai ?_ | fail); simp [h0, hnm, hg])
  | (refine zcH ?_)
  | (refine hk _ ?_; clear hk k; simp only [zao])
  | (refine zbV rfl (by kernel_rfl) (by kernel_rfl) fun k hk => ?_; simp [h0, hnm, hg])
  | (refine zaA ?_; simp [h0, hnm, hg])
  | (refine zau ?_; simp only [zao])
  | fail)
    (refine EndOK.val (.inr rfl) ?_; simp [zaI, zaf, zaw, Tryz.results180])
    simp [gF, hga]
   | none =>
    rw [hga] at hg
    simp only [Option.map_none] at hg
    cases hma : asc m e.s with
    | some q =>
     rw [hma] at hm
     simp only [Option.map_some] at hm
     repeat' (first
  | ((first | refine zag ?_ | refine zhD rfl ?_ | refine zbW ?_ | refine zhE rfl ?_ | refine zak ?_ | refine zah ?_ | refine zai ?_ | fail); simp [h0, hnm, hg, hm])
  | (refine zgp (hC _ (by kernel_rfl)) (hk _ ?_); clear hC hk C k; simp only [zao])
  | (refine zcH ?_)
  | (refine hk _ ?_; clear hk k; simp only [zao])
  | (refine zbV rfl (by kernel_rfl) (by kernel_rfl) fun k hk => ?_; simp [h0, hnm, hg, hm])
  | (refine zhB rfl (by kernel_rfl) (by kernel_rfl) (by simp [hn]) fun C k hC hk => ?_; simp [h0, hnm, hg, hm])
  | (refine zaA ?_; simp [h0, hnm, hg, hm])
  | ((first | refine zau ?_ | refine zar ?_ | fail); simp only [zao])
  | fail)
     (refine EndOK.val (.inr rfl) ?_; simp [zaI, zaf, zaw, Tryz.results180])
     simp [gF, hga, mF, hma]
    | none =>
     rw [hma] at hm
     simp only [Option.map_none] at hm
     repeat' (first
  | ((first | refine zag ?_ | refine zhD rfl ?_ | refine zbW ?_ | refine zhE rfl ?_ | refine zak ?_ | refine zah ?_ | refine zai ?_ | fail); simp [h0, hnm, hg, hm])
  | (refine zgp (hC _ (by kernel_rfl)) (hk _ ?_); clear hC hk C k; simp only [zao])
  | (refine zcH ?_)
  | (refine hk _ ?_; clear hk k; simp only [zao])
  | (refine zbV rfl (by kernel_rfl) (by kernel_rfl) fun k hk => ?_; simp [h0, hnm, hg, hm])
  | (refine zhB rfl (by kernel_rfl) (by kernel_rfl) (by simp [hn]) fun C k hC hk => ?_; simp [h0, hnm, hg, hm])
  | (refine zaA ?_; simp [h0, hnm, hg, hm])
  | ((first | refine zau ?_ | refine zar ?_ | fail); simp only [zao])
  | fail)
     (refine EndOK.val (.inr rfl) ?_; simp [zaI, zaf, zaw, Tryz.results180])
     simp [gF, hga, mF, hma]
  rw [ziJ, if_neg h0, if_neg hnm]
  (refine Fun.of_body Tryz.func180 rfl (by simp) fun Γ hn => ?_); simp only [entry, ziC, ziN, maC, maN, oA, Tryz.ntmps180]
  simp only [zes, jU]
  have hr := h4 h0 hnm
  repeat' (first
  | ((first | refine zag ?_ | refine zak ?_ | refine zah ?_ | refine zai ?_ | refine zaA ?_ | fail); simp [h0, hnm])
  | (refine zar ?_; simp only [zao])
  | fail)
  refine zmK _ (Wk.own 10 3 1 (by decide) rfl) ?_
  simp [St.own]
  refine zcg (α := { p : Nat × List Int // p.1 ≤ e.args.length ∧ p.2 = (e.args.take p.1).map (fun x => (zdW (gF g) (mF m) x).1) ∧ ∀ x ∈ e.args.take p.1, (zdW (gF g) (mF m) x).2 = 0 }) [0, 3, 53, 54]
   (fun p => [(10, .vec 1 p.1.2.length), (55, .u (.int .i64 p.1.1))]) (fun p => [(1, .vec 3 1 (rowsD (p.1.2.map fun n => [U.int .i64 n]))), (0, .box [.u (.int .i64 e.op), .u (.int .i64 e.n), .u (.int .i64 e.unit), .u (.str e.s), .u (.sl (e.args.map Exp.row))])]) 2
   (fun p => e.args.length - p.1.1) ⟨(0, []), by simp, by simp, by simp⟩ ?_ ?_
  ·exact (Wk.cut rfl (by simp [hn, St.lp]) (by simp [wkO, St.lp, zaa, getK, Ob.under, D.under, zad, zae]) (by simp [wkU, St.lp, zal, zaa, getK, D.under]) (by simp [wkE, St.lp, zal, zaa, getK] <;> (try (intros; simp_all; done)) <;> (try (intros; omega)) <;> (try grind)))
  rintro ⟨⟨i, acc⟩, hi, hacc, hb⟩
  simp only at hi hacc hb
  simp [St.lp, St.only, zal, zaa, getK]
  rcases hx : e.args[i]? with _ | x
  ·have hge : e.args.length ≤ i := by simpa using hx
   rw [List.take_of_length_le hge] at hacc hb
   have hok := zjp hb
   rw [← hacc] at hok
   have hal : (acc.length : Int) = zb3 e.op := by rw [hacc]; simpa using h1
   have h5 := zpI e.op acc (by omega) hal
   simp only [ints] at h5
   generalize hcb : zhX e.op acc = cb at h5
   obtain ⟨c1, c2⟩ := cb
   repeat' (first
  | ((first | refine zag ?_ | refine zak ?_ | fail); simp [hx, h0, hnm])
  | (refine ⟨by omega, ?_⟩)
  | ((first | refine zah ?_ | refine zai ?_ | fail); simp [hx, h0, hnm])
  | ((first | refine zau ?_ | refine zar ?_ | fail); simp only [zao])
  | (refine za6 ?_; simp [zao])
  | (refine ⟨fun hc => ?_, fun hc => ?_⟩ <;> (try (exfalso; omega)))
  | (intro hc <;> (try (exfalso; omega)))
  | (refine CallP.fE (h5) (by first | rfl | fail) (by first | simp [hx, h0, hnm] <;> rfl | fail) ?_; (try simp [hx, h0, hnm]))
  | fail)
   all_goals
    (refine EndOK.val (.inr rfl) ?_; simp [zaI, zaf, zaw, Tryz.results180])
   all_goals (rw [hok]; simp_all; done)
  ·have hlt : i < e.args.length := (lGE.1 hx).1
   have h5 := ziI g m d x (hr x (List.mem_of_getElem? hx))
   simp only [zes, jU] at h5
   have hal : acc.length = i := by rw [hacc]; simp; omega
   have h3a : e.args.length ≤ 3 := by
    have : zb3 e.op ≤ 3 := by unfold zb3; repeat' split
                              all_goals omega
    omega
   have her := fun h => zh2 (g := gF g) (m := mF m) hx hb h
   generalize hun : zdW (gF g) (mF m) x = un at h5 her
   obtain ⟨u, er⟩ := un
   repeat' (first
  | ((first | refine zag ?_ | refine zak ?_ | fail); simp [hx, x.row_eq, h0, hnm])
  | (refine ⟨by omega, ?_⟩)
  | ((first | refine zah ?_ | refine zai ?_ | refine zat ?_ | fail); simp [hx, x.row_eq, h0, hnm])
  | ((first | refine zau ?_ | refine zar ?_ | fail); simp only [zao])
  | (refine ⟨?_, by omega⟩)
  | (refine ⟨fun hc => ?_, fun hc => ?_⟩ <;> (try (exfalso; omega)))
  | (intro hc <;> (try (exfalso; omega)))
  | (refine CallP.fE (h5) (by first | rfl | fail) (by first | simp [hx, x.row_eq, h0, hnm] <;> rfl | fail) ?_; (try simp [hx, x.row_eq, h0, hnm]))
  | fail)
   ·(refine EndOK.val (.inr rfl) ?_; simp [zaI, zaf, zaw, Tryz.results180])
    rw [her (by simpa using (by assumption : ¬ er = 0))]
    simp
   ·skip
    refine LoopW.next ⟨(i + 1, acc ++ [u]), (by omega : i + 1 ≤ e.args.length), (?_ : acc ++ [u] = _), ?_⟩ (by simp; omega) ?_
    ·rw [List.take_succ_eq_append_getElem hlt, List.map_append, ← hacc, (lGE.1 hx).2]
     simp [hun]
    ·exact zaY hx hb (by simp_all)
    ·exact (Wk.ren ((fun i => if i = 1 then 4 else i)) rfl (by first | (simp [hn]; done) | (intro i hi; rw [hn] at hi; constructor <;> (try simp) <;> (try (intro _)) <;> omega)) (by simp [ziB, St.lp, zal, zaa, getK, zac, zam, D.under, D.le, D.ren] <;> (try (intros; simp_all; done)) <;> (try omega)) (by simp [wkR, St.lp, zaa, getK, zac, zam, obR, leU, zbR, zaT, Ob.under, D.under, D.le, D.ren] <;> (try (intros; simp_all; done)) <;> (try omega)) (by simp))
theorem zeH (g : GM) (m : LM) : ∀ (d : Nat) (e : Exp), zbx d e = true → Fun Tryz.prog 228 [.u (jU g m), zes e] (· = .u (.bool (zgq (sF m) e)))
 | 0, e, h => by simp [zbx] at h
 | d + 1, e, h => by
  obtain ⟨h1, h2, h3, h4⟩ := zh6 h
  rw [zm6]
  have hm := zqm m e.s
  by_cases h0 : e.op = 0
  ·rw [if_pos h0]
   (refine Fun.of_body Tryz.func228 rfl (by simp) fun Γ hn => ?_); simp only [entry, ziC, ziN, maC, maN, oA, Tryz.ntmps228]
   simp only [zes, jU]
   repeat' (first
  | ((first | refine zag ?_ | refine zak ?_ | refine zah ?_ | refine zai ?_ | refine zaA ?_ | fail); simp [h0])
  | (refine zau ?_; simp only [zao])
  | fail)
   (refine EndOK.val (.inr rfl) ?_; simp [zaI, zaf, zaw, Tryz.results228])
  rw [if_neg h0]
  by_cases hnm : e.op = 1
  ·rw [if_pos hnm]
   cases hma : asc m e.s with
   | some q =>
    rw [hma] at hm
    simp only [Option.map_some] at hm
    (refine Fun.of_body Tryz.func228 rfl (by simp) fun Γ hn => ?_); simp only [entry, ziC, ziN, maC, maN, oA, Tryz.ntmps228]
    simp only [zes, jU]
    repeat' (first
  | ((first | refine zag ?_ | refine zbW ?_ | refine zak ?_ | refine zah ?_ | refine zai ?_ | fail); simp [h0, hnm, hm])
  | (refine zcH ?_)
  | (refine hk _ ?_; clear hk k; simp only [zao])
  | (refine zbV rfl (by kernel_rfl) (by kernel_rfl) fun k hk => ?_; simp [h0, hnm, hm])
  | (refine zaA ?_; simp [h0, hnm, hm])
  | (refine zau ?_; simp only [zao])
  | fail)
    (refine EndOK.val (.inr rfl) ?_; simp [zaI, zaf, zaw, Tryz.results228])
    simp [sF, hma]
   | none =>
    rw [hma] at hm
    simp only [Option.map_none] at hm
    (refine Fun.of_body Tryz.func228 rfl (by simp) fun Γ hn => ?_); simp only [entry, ziC, ziN, maC, maN, oA, Tryz.ntmps228]
    simp only [zes, jU]
    repeat' (first
  | ((first | refine zag ?_ | refine zbW ?_ | refine zak ?_ | refine zah ?_ | refine zai ?_ | fail); simp [h0, hnm, hm])
  | (refine zcH ?_)
  | (refine hk _ ?_; clear hk k; simp only [zao])
  | (refine zbV rfl (by kernel_rfl) (by kernel_rfl) fun k hk => ?_; simp [h0, hnm, hm])
  | (refine zaA ?_; simp [h0, hnm, hm])
  | (refine zau ?_; simp only [zao])
  | fail)
    (refine EndOK.val (.inr rfl) ?_; simp [zaI, zaf, zaw, Tryz.results228])
    simp [sF, hma]
  rw [if_neg hnm]
  have hr := h4 h0 hnm
  by_cases hA : e.op = 2 ∨ e.op = 3 ∨ e.op = 6 ∨ e.op = 7
  ·rw [if_pos hA]
   have hl : e.args.length = 2 := by
    rcases hA with ha | ha | ha | ha <;> rw [ha] at h1 <;> simp [zb3] at h1 <;> omega
   obtain ⟨a, b, hab⟩ : ∃ a b, e.args = [a, b] := by
    match hq : e.args, hl with
    | [a, b], _ => exact ⟨a, b, rfl⟩
   have h5 := zeH g m d a (hr a (by simp [hab]))
   simp only [zes, jU] at h5
   rw [hab, zdD]
   rcases hA with ha | ha | ha | ha
   all_goals
    (refine Fun.of_body Tryz.func228 rfl (by simp) fun Γ hn => ?_); simp only [entry, ziC, ziN, maC, maN, oA, Tryz.ntmps228]
    simp only [zes, jU]
    repeat' (first
  | ((first | refine zag ?_ | refine zak ?_ | refine zah ?_ | refine zai ?_ | refine zaA ?_ | refine zat ?_ | fail); simp [ha, hab, a.row_eq, b.row_eq])
  | ((first | refine zau ?_ | refine zar ?_ | fail); simp only [zao])
  | (refine CallP.fE (h5) (by first | rfl | fail) (by first | simp [ha, hab, a.row_eq, b.row_eq] <;> rfl | fail) ?_; (try simp [ha, hab, a.row_eq, b.row_eq]))
  | fail)
    (refine EndOK.val (.inr rfl) ?_; simp [zaI, zaf, zaw, Tryz.results228])
  rw [if_neg hA]
  by_cases hB : e.op = 4
  ·rw [if_pos hB]
   have hl : e.args.length = 2 := by rw [hB] at h1; simp [zb3] at h1; omega
   obtain ⟨a, b, hab⟩ : ∃ a b, e.args = [a, b] := by
    match hq : e.args, hl with
    | [a, b], _ => exact ⟨a, b, rfl⟩
   have h5 := zeH g m d a (hr a (by simp [hab]))
   have h6 := zeH g m d b (hr b (by simp [hab]))
   simp only [zes, jU] at h5 h6
   rw [hab, zdD, zdD, zdD]
   generalize zgq (sF m) a = x1 at h5 ⊢
   generalize zgq (sF m) b = x2 at h6 ⊢
   (refine Fun.of_body Tryz.func228 rfl (by simp) fun Γ hn => ?_); simp only [entry, ziC, ziN, maC, maN, oA, Tryz.ntmps228]
   simp only [zes, jU]
   repeat' (first
  | ((first | refine zag ?_ | refine zak ?_ | refine zah ?_ | refine zai ?_ | refine zaA ?_ | refine zat ?_ | fail); simp [hB, hab, a.row_eq, b.row_eq])
  | (refine zau ?_; simp only [zao])
  | (refine ⟨fun hc => ?_, fun hc => ?_⟩ <;> (try (exfalso; omega)))
  | (refine CallP.fE (h5) (by first | rfl | fail) (by first | simp [hB, hab, a.row_eq, b.row_eq] <;> rfl | fail) ?_; (try simp [hB, hab, a.row_eq, b.row_eq]))
  | (refine CallP.fE (h6) (by first | rfl | fail) (by first | simp [hB, hab, a.row_eq, b.row_eq] <;> rfl | fail) ?_; (try simp [hB, hab, a.row_eq, b.row_eq]))
  | fail)
   all_goals
    (refine EndOK.val (.inr rfl) ?_; simp [zaI, zaf, zaw, Tryz.results228])
   all_goals (simp_all; done)
  rw [if_neg hB]
  by_cases hC : e.op = 13
  ·rw [if_pos hC]
   have hl : e.args.length = 3 := by rw [hC] at h1; simp [zb3] at h1; omega
   obtain ⟨a, b, c, hab⟩ : ∃ a b c, e.args = [a, b, c] := by
    match hq : e.args, hl with
    | [a, b, c], _ => exact ⟨a, b, c, rfl⟩
   have h5 := zeH g m d b (hr b (by simp [hab]))
   simp only [zes, jU] at h5
   rw [hab, zdD, zdD]
   (refine Fun.of_body Tryz.func228 rfl (by simp) fun Γ hn => ?_); simp only [entry, ziC, ziN, maC, maN, oA, Tryz.ntmps228]
   simp only [zes, jU]
   repeat' (first
  | ((first | refine zag ?_ | refine zak ?_ | refine zah ?_ | refine zai ?_ | refine zaA ?_ | refine zat ?_ | fail); simp [hC, hab, a.row_eq, b.row_eq, c.row_eq])
  | (refine zau ?_; simp only [zao])
  | (refine CallP.fE (h5) (by first | rfl | fail) (by first | simp [hC, hab, a.row_eq, b.row_eq, c.row_eq] <;> rfl | fail) ?_; (try simp [hC, hab, a.row_eq, b.row_eq, c.row_eq]))
  | fail)
   (refine EndOK.val (.inr rfl) ?_; simp [zaI, zaf, zaw, Tryz.results228])
  rw [if_neg hC]
  have hD : ¬ e.op = 2 ∧ ¬ e.op = 3 ∧ ¬ e.op = 6 ∧ ¬ e.op = 7 := by omega
  (refine Fun.of_body Tryz.func228 rfl (by simp) fun Γ hn => ?_); simp only [entry, ziC, ziN, maC, maN, oA, Tryz.ntmps228]
  simp only [zes, jU]
  repeat' (first
  | ((first | refine zag ?_ | refine zak ?_ | refine zah ?_ | refine zai ?_ | refine zaA ?_ | refine zat ?_ | fail); simp [h0, hnm, hB, hC, hD.1, hD.2.1, hD.2.2.1, hD.2.2.2])
  | ((first | refine zau ?_ | refine zar ?_ | fail); simp only [zao])
  | fail)
  (refine EndOK.val (.inr rfl) ?_; simp [zaI, zaf, zaw, Tryz.results228])
theorem zqJ (l : Let) : Fun Tryz.prog 227 (zpl l :: [].map .u) (· = .u (.bool (!zbx 12 l.body))) := by
 have h1 := zeI l.body
 simp only [zpl, List.map_nil, zes] at h1 ⊢
 (refine Fun.of_body Tryz.func227 rfl (by simp) fun Γ hn => ?_); simp only [entry, ziC, ziN, maC, maN, oA, Tryz.ntmps227]
 repeat' (first
  | ((first | refine zag ?_ | refine zak ?_ | refine zah ?_ | fail); simp)
  | (refine zau ?_; simp only [zao])
  | (refine CallP.fE (h1) (by first | rfl | fail) (by first | (simp; done) | (simp; rfl) | fail) ?_; (try simp))
  | fail)
 (refine EndOK.val (.inr rfl) ?_; simp [zaI, zaf, zaw, Tryz.results227])
def zgy (l : List Var) : U := .sl (l.map fun v => [.str v.name, .int .i64 v.unit, .int .i64 v.n])
/-- What the given names mean. -/
def gOf (names : List Var) : GM := names.foldl (fun g v => if asc g v.name = none then zfT g v.name v.unit else g) []
/-- What the lets mean. -/
def mOf (g : GM) (lets : List Let) : LM := lets.foldl (fun m l => zfT m l.name ((zdW (gF g) (mF m) l.body).1, (zdW (gF g) (mF m) l.body).2, zgq (sF m) l.body)) []
def zg0 (v : Var) : Bool := decide (0 ≤ v.unit) && decide (v.unit < 5)
def zgG (lets : List Let) (e : Exp) : Bool := decide (lets.length ≤ 20) && zbx 12 e && !lets.any (fun l => !zbx 12 l.body)
def okJ (lets : List Let) (names : List Var) (e : Exp) : Bool := zgG lets e && names.all zg0
def znW (lets : List Let) (names : List Var) (e : Exp) : D := if okJ lets names e = true then .tup [.u (jU (gOf names) (mOf (gOf names) lets)), .u (.bool true)] else .tup [.u (.oth (.pointer none)), .u (.bool false)]
theorem zmW (g : GM) (x : List UInt8) (u : Int) : zdk (zpy g) (.s x) [U.int .i64 u] = zpy (zfT g x u) := ziG (fun u : Int => [U.int .i64 u]) x u g
theorem zjm (g : LM) (x : List UInt8) (u e : Int) (b : Bool) : zdk (zqo g) (.s x) [U.int .i64 u, .int .i64 e, .bool b] = zqo (zfT g x (u, e, b)) := ziG (fun q : Int × Int × Bool => [U.int .i64 q.1, .int .i64 q.2.1, .bool q.2.2]) x (u, e, b) g
theorem zir {α β : Type} (f : β → α → β) (b : β) {l : List α} {i : Nat} {x : α} (h : l[i]? = some x) : (l.take (i + 1)).foldl f b = f ((l.take i).foldl f b) x := by
 obtain ⟨hi, rfl⟩ := lGE.1 h
 rw [List.take_succ_eq_append_getElem hi, List.foldl_append]
 rfl
theorem zpz {names : List Var} {i : Nat} {v : Var} (h : names[i]? = some v) : gOf (names.take (i + 1)) = if asc (gOf (names.take i)) v.name = none then zfT (gOf (names.take i)) v.name v.unit else gOf (names.take i) := zir _ _ h
theorem zo9 {g : GM} {lets : List Let} {i : Nat} {l : Let} (h : lets[i]? = some l) : mOf g (lets.take (i + 1)) = zfT (mOf g (lets.take i)) l.name ((zdW (gF g) (mF (mOf g (lets.take i))) l.body).1, (zdW (gF g) (mF (mOf g (lets.take i))) l.body).2, zgq (sF (mOf g (lets.take i))) l.body) := zir _ _ h
theorem znV (lets : List Let) (names : List Var) (e : Exp) : Fun Tryz.prog 179 [.u (zeO lets), .u (zgy names), zes e] (· = znW lets names e) := by
 have h1 := zeI e
 have h2 := zeu lets 227 [] _ (fun x _ => zqJ x) (by simp) (fun _ => rfl) (fun _ => rfl)
 simp only [List.map_nil, zeO, zes] at h1 h2
 generalize hre : zbx 12 e = re at h1
 generalize hrl : (lets.any fun l => !zbx 12 l.body) = rl at h2
 have hok0 : okJ lets names e = (decide (lets.length ≤ 20) && re && !rl && names.all zg0) := by rw [okJ, zgG, hre, hrl]
 have hre' := hre
 have hrl' := hrl
 clear hre hrl
 unfold znW
 generalize okJ lets names e = K at hok0 ⊢
 (refine Fun.of_bodyW Tryz.func179 rfl (by simp) fun Γ hn => ?_); simp only [entry, ziC, ziN, maC, maN, oA, Tryz.ntmps179]
 simp only [zes, zeO, zgy]
 refine zgE (x := 0) rfl fun hl0 => ?_
 refine zgE (x := 1) rfl fun hl1 => ?_
 simp only [List.length_map] at hl0 hl1
 repeat' (first
  | ((first | refine zag ?_ | refine zak ?_ | refine zah ?_ | refine zai ?_ | refine zaA ?_ | fail); simp)
  | ((first | refine zau ?_ | refine zar ?_ | fail); simp only [zao])
  | (refine ⟨fun hc => ?_, fun hc => ?_⟩ <;> (try (exfalso; omega)))
  | (refine CallP.fE (h1) (by first | rfl | fail) (by first | (simp; done) | (simp; rfl) | fail) ?_; (try simp))
  | (refine CallP.fE (h2) (by first | rfl | fail) (by first | (simp; done) | (simp; rfl) | fail) ?_; (try simp))
  | fail)
 all_goals try (refine EndW.here ?_; have hKf : K = false := (by first | (rw [hok0]; clear h1 h2 hok0 hre' hrl'; simp; intros; simp_all; done) | (rw [hok0]; clear h1 h2 hok0 hre' hrl'; simp; intros; omega) | fail); subst hKf; (refine EndOK.val (.inr rfl) ?_; simp [zaI, zaf, zaw, Tryz.results179]); done)
 refine zcg (α := { i : Nat // i ≤ names.length ∧ ∀ v ∈ names.take i, zg0 v = true }) [0, 8, 33, 34] (fun i => [(35, .u (.int .i64 i.1))])
  (fun i => [(3, .box [.mp 1, .mp 2]), (2, .map .s true []), (1, .map .s false (zi5 (zpy (gOf (names.take i.1))))), (0, .box [.u (.int .i64 e.op), .u (.int .i64 e.n), .u (.int .i64 e.unit), .u (.str e.s), .u (.sl (e.args.map Exp.row))])]) 4
  (fun i => names.length - i.1) ⟨0, by omega, by simp⟩ ?_ ?_
 ·exact (Wk.cut rfl (by simp [hn, St.lp]) (by simp [wkO, St.lp, zaa, getK, Ob.under, D.under, zad, zae, gOf, zpy, zbl, Ob.under]) (by simp [wkU, St.lp, zal, zaa, getK, D.under, gOf, zpy, zbl, Ob.under]) (by simp [wkE, St.lp, zal, zaa, getK, gOf, zpy, zbl, Ob.under] <;> (try (intros; simp_all; done)) <;> (try (intros; omega)) <;> (try grind)))
 rintro ⟨i, hi, hb⟩
 simp [St.lp, St.only, zal, zaa, getK]
 rcases hx : names[i]? with _ | v
 ·have hge : names.length ≤ i := by simpa using hx
  obtain rfl : i = names.length := by omega
  rw [List.take_length] at hb
  have hall : names.all zg0 = true := by simpa [List.all_eq_true] using hb
  repeat' (first
  | ((first | refine zag ?_ | refine zak ?_ | refine zah ?_ | refine zaA ?_ | fail); simp [hx])
  | (refine za6 ?_; simp [zao])
  | fail)
  refine zcg (α := { i : Nat // i ≤ lets.length }) [8, 68, 69] (fun i => [(70, .u (.int .i64 i.1))])
   (fun i => [(3, .box [.mp 1, .mp 2]), (2, .map .s true (zi5 (zqo (mOf (gOf names) (lets.take i.1))))), (1, .map .s false (zi5 (zpy (gOf names)))), (0, .box [.u (.int .i64 e.op), .u (.int .i64 e.n), .u (.int .i64 e.unit), .u (.str e.s), .u (.sl (e.args.map Exp.row))])]) 4
   (fun i => lets.length - i.1) ⟨0, by omega⟩ ?_ ?_
  ·exact (Wk.cut rfl (by simp [hn, St.lp]) (by simp [wkO, St.lp, zaa, getK, Ob.under, D.under, zad, zae, mOf, zqo, zbl, Ob.under]) (by simp [wkU, St.lp, zal, zaa, getK, D.under, mOf, zqo, zbl, Ob.under]) (by simp [wkE, St.lp, zal, zaa, getK, mOf, zqo, zbl, Ob.under] <;> (try (intros; simp_all; done)) <;> (try (intros; omega)) <;> (try grind)))
  rintro ⟨k, hk0⟩
  simp [St.lp, St.only, zal, zaa, getK]
  rcases hy : lets[k]? with _ | l
  ·have hgk : lets.length ≤ k := by simpa using hy
   obtain rfl : k = lets.length := by omega
   obtain rfl : K = true := by
    rw [hok0, hall]
    have : lets.length ≤ 20 := by omega
    clear h1 h2
    simp_all
   repeat' (first
  | ((first | refine zag ?_ | refine zak ?_ | refine zah ?_ | fail); simp [hy])
  | (refine zau ?_; simp only [zao])
  | (refine za6 ?_; simp [zao])
  | fail)
   (refine EndW.frzN 2 ?_; simp [frzN, frz1, zaC, zaB, St.frz, St.frzS, frzS, fv, zaQ, za2, za3, frzObS, zay, zas, del, frz, za8])
   (refine EndW.frzB 3 ?_; simp [frzB, zaC, zaB, St.frzS, frzS, fv, zaQ, za2, za3, frzObS, zay, zas, del])
   refine EndW.here ?_
   (refine EndOK.val (.inr rfl) ?_; simp [zaI, zaf, zaw, Tryz.results179])
   rfl
  ·have hltk : k < lets.length := (lGE.1 hy).1
   have hsu := zo9 (g := gOf names) hy
   have hrl : zbx 12 l.body = true := by
    have h7 : (lets.any fun l => !zbx 12 l.body) = false := by rw [hrl']; assumption
    rw [List.any_eq_false] at h7
    simpa using h7 l (List.mem_of_getElem? hy)
   have h5 := ziI (gOf names) (mOf (gOf names) (lets.take k)) 12 l.body hrl
   have h6 := zeH (gOf names) (mOf (gOf names) (lets.take k)) 12 l.body hrl
   simp only [zes, jU] at h5 h6
   repeat' (first
  | ((first | refine zag ?_ | refine zhD rfl ?_ | refine zhE rfl ?_ | refine zak ?_ | fail); simp [hy, zjm])
  | (refine ⟨by omega, ?_⟩)
  | (refine zah ?_; simp [hy, zjm])
  | (refine zgp (hC _ (by kernel_rfl)) (hk _ ?_); clear hC hk C k; simp only [zao])
  | (refine zhB rfl (by kernel_rfl) (by kernel_rfl) (by simp [hn]) fun C k hC hk => ?_; simp [hy, zjm])
  | (refine zat ?_; simp [hy, zjm])
  | (refine zar ?_; simp only [zao])
  | (refine ⟨?_, by omega⟩)
  | (intro hc <;> (try (exfalso; omega)))
  | (refine CallP.fE (h5) (by first | rfl | fail) (by first | simp [hy, zjm] <;> rfl | fail) ?_; (try simp [hy, zjm]))
  | (refine CallV.fun_ (h6) (by first | rfl | fail) (by first | simp [hy, zjm] <;> rfl | fail) ?_ <;> (try simp [hy, zjm]))
  | fail)
   refine LoopW.next ⟨k + 1, by omega⟩ (by simp; omega) ?_
   exact (Wk.cut rfl (by simp [hn, St.lp]) (by simp [wkO, St.lp, zaa, getK, Ob.under, D.under, zad, zae, hsu]) (by simp [wkU, St.lp, zal, zaa, getK, D.under, hsu]) (by simp [wkE, St.lp, zal, zaa, getK, hsu] <;> (try (intros; simp_all; done)) <;> (try (intros; omega)) <;> (try grind)))
 ·have hlt : i < names.length := (lGE.1 hx).1
  have hg := zqn (gOf (names.take i)) v.name
  have hsu := zpz hx
  have hok : zg0 v = (decide (0 ≤ v.unit) && decide (v.unit < 5)) := rfl
  have hbad : zg0 v = false → names.all zg0 = false := fun h => by
   rw [List.all_eq_false]
   exact ⟨v, List.mem_of_getElem? hx, by simp [h]⟩
  cases hga : asc (gOf (names.take i)) v.name with
  | some u =>
   rw [hga] at hg hsu
   simp only [Option.map_some] at hg
   repeat' (first
  | ((first | refine zag ?_ | refine zbW ?_ | refine zak ?_ | fail); simp [hx, hg])
  | (refine ⟨by omega, ?_⟩)
  | ((first | refine zah ?_ | refine zai ?_ | fail); simp [hx, hg])
  | (refine zcH ?_)
  | (refine hk _ ?_; clear hk k; simp only [zao])
  | (refine zbV rfl (by kernel_rfl) (by kernel_rfl) fun k hk => ?_; simp [hx, hg])
  | (refine zat ?_; simp [hx, hg])
  | ((first | refine zau ?_ | refine zar ?_ | fail); simp only [zao])
  | (refine ⟨?_, by omega⟩)
  | (refine ⟨fun hc => ?_, fun hc => ?_⟩ <;> (try (exfalso; omega)))
  | (intro hc <;> (try (exfalso; omega)))
  | fail)
   all_goals first
    | (refine LoopW.next ⟨i + 1, by omega, zaY hx hb (by rw [hok]; simp; omega)⟩ (by simp; omega) ?_; exact (Wk.cut rfl (by simp [hn, St.lp]) (by simp [wkO, St.lp, zaa, getK, Ob.under, D.under, zad, zae, hsu]) (by simp [wkU, St.lp, zal, zaa, getK, D.under, hsu]) (by simp [wkE, St.lp, zal, zaa, getK, hsu] <;> (try (intros; simp_all; done)) <;> (try (intros; omega)) <;> (try grind))))
    | (refine EndW.here ?_; have hKf : K = false := (by first | (rw [hok0, hbad (by rw [hok]; simp; omega)]; simp; done) | fail); subst hKf; (refine EndOK.val (.inr rfl) ?_; simp [zaI, zaf, zaw, Tryz.results179]))
  | none =>
   rw [hga] at hg hsu
   simp only [Option.map_none] at hg
   repeat' (first
  | ((first | refine zag ?_ | refine zhD rfl ?_ | refine zbW ?_ | refine zhE rfl ?_ | refine zak ?_ | fail); simp [hx, hg, zmW])
  | (refine ⟨by omega, ?_⟩)
  | ((first | refine zah ?_ | refine zai ?_ | fail); simp [hx, hg, zmW])
  | (refine zgp (hC _ (by kernel_rfl)) (hk _ ?_); clear hC hk C k; simp only [zao])
  | (refine zcH ?_)
  | (refine hk _ ?_; clear hk k; simp only [zao])
  | (refine zbV rfl (by kernel_rfl) (by kernel_rfl) fun k hk => ?_; simp [hx, hg, zmW])
  | (refine zhB rfl (by kernel_rfl) (by kernel_rfl) (by simp [hn]) fun C k hC hk => ?_; simp [hx, hg, zmW])
  | (refine zat ?_; simp [hx, hg, zmW])
  | ((first | refine zau ?_ | refine zar ?_ | fail); simp only [zao])
  | (refine ⟨?_, by omega⟩)
  | (refine ⟨fun hc => ?_, fun hc => ?_⟩ <;> (try (exfalso; omega)))
  | (intro hc <;> (try (exfalso; omega)))
  | fail)
   all_goals first
    | (refine LoopW.next ⟨i + 1, by omega, zaY hx hb (by rw [hok]; simp; omega)⟩ (by simp; omega) ?_; exact (Wk.cut rfl (by simp [hn, St.lp]) (by simp [wkO, St.lp, zaa, getK, Ob.under, D.under, zad, zae, hsu]) (by simp [wkU, St.lp, zal, zaa, getK, D.under, hsu]) (by simp [wkE, St.lp, zal, zaa, getK, hsu] <;> (try (intros; simp_all; done)) <;> (try (intros; omega)) <;> (try grind))))
    | (refine EndW.here ?_; have hKf : K = false := (by first | (rw [hok0, hbad (by rw [hok]; simp; omega)]; simp; done) | fail); subst hKf; (refine EndOK.val (.inr rfl) ?_; simp [zaI, zaf, zaw, Tryz.results179]))
def inB (lo hi : Int) (l : List Int) : Bool := !l.any fun n => decide (n < lo) || decide (hi < n)
theorem zqO (lo hi n : Int) : Fun Tryz.prog 166 (zms n :: [U.row [.int .i64 lo] 0, U.row [.int .i64 hi] 0].map .u) (· = .u (.bool (decide (n < lo) || decide (hi < n)))) := by
 simp only [zms, List.map_cons, List.map_nil]
 (refine Fun.of_body Tryz.func166 rfl (by simp) fun Γ hn => ?_); simp only [entry, ziC, ziN, maC, maN, oA, Tryz.ntmps166]
 repeat' (first
  | ((first | refine zag ?_ | refine zak ?_ | refine zah ?_ | fail); simp)
  | (refine zau ?_; simp only [zao])
  | (refine ⟨fun hc => ?_, fun hc => ?_⟩ <;> (try (exfalso; omega)))
  | fail)
 all_goals
  (refine EndOK.val (.inr rfl) ?_; simp [zaI, zaf, zaw, Tryz.results166])
 all_goals grind
theorem zjZ (lo hi : Int) (l : List Int) : Fun Tryz.prog 98 [.u (.int .i64 lo), .u (.int .i64 hi), .u (ints l)] (· = .u (.bool (inB lo hi l))) := by
 have h1 := zev l 166 [U.row [.int .i64 lo] 0, U.row [.int .i64 hi] 0] _ (fun n _ => zqO lo hi n) (by simp) (fun _ => rfl) (fun _ => rfl)
 simp only [List.map_cons, List.map_nil] at h1
 unfold inB
 (refine Fun.of_body Tryz.func98 rfl (by simp) fun Γ hn => ?_); simp only [entry, ziC, ziN, maC, maN, oA, Tryz.ntmps98]
 simp only [ints] at h1 ⊢
 repeat' (first
  | ((first | refine zag ?_ | refine zak ?_ | refine zah ?_ | fail); simp)
  | (refine zau ?_; simp only [zao])
  | (refine CallP.fE (h1) (by first | rfl | fail) (by first | (simp; done) | (simp; rfl) | fail) ?_; (try simp))
  | fail)
 (refine EndOK.val (.inr rfl) ?_; simp [zaI, zaf, zaw, Tryz.results98])
theorem zf5 (x l : Let) : Fun Tryz.prog 100 (zpl x :: [U.row (zgs l) 0].map .u) (· = .u (.bool (decide (x.name = l.name)))) := by
 simp only [zpl, zgs, List.map_cons, List.map_nil]
 (refine Fun.of_body Tryz.func100 rfl (by simp) fun Γ hn => ?_); simp only [entry, ziC, ziN, maC, maN, oA, Tryz.ntmps100]
 repeat' (first
  | ((first | refine zag ?_ | refine zak ?_ | refine zah ?_ | fail); simp)
  | (refine zau ?_; simp only [zao])
  | fail)
 (refine EndOK.val (.inr rfl) ?_; simp [zaI, zaf, zaw, Tryz.results100])
structure By where
 kind : Int
 period : Int
 grace : Int
 wait : Int
 last : Int
 order : Int
 sld : Bool
 backs : Int
 voices : Int
 jury : Int
 fund : Int
 lets : List Let
 due : Exp
 fine : Exp
 pay : Exp
 cover : Exp
 hold : Exp
 deriving Inhabited
def zbr (b : By) : List U := [.int .i64 b.kind, .int .i64 b.period, .int .i64 b.grace, .int .i64 b.wait, .int .i64 b.last, .int .i64 b.order, .bool b.sld, .int .i64 b.backs, .int .i64 b.voices, .int .i64 b.jury, .int .i64 b.fund,
 .sl (b.lets.map fun l => [.str l.name, .int .i64 l.body.op, .int .i64 l.body.n, .int .i64 l.body.unit, .str l.body.s, .sl (l.body.args.map Exp.row)]),
 .int .i64 b.due.op, .int .i64 b.due.n, .int .i64 b.due.unit, .str b.due.s, .sl (b.due.args.map Exp.row),
 .int .i64 b.fine.op, .int .i64 b.fine.n, .int .i64 b.fine.unit, .str b.fine.s, .sl (b.fine.args.map Exp.row),
 .int .i64 b.pay.op, .int .i64 b.pay.n, .int .i64 b.pay.unit, .str b.pay.s, .sl (b.pay.args.map Exp.row),
 .int .i64 b.cover.op, .int .i64 b.cover.n, .int .i64 b.cover.unit, .str b.cover.s, .sl (b.cover.args.map Exp.row),
 .int .i64 b.hold.op, .int .i64 b.hold.n, .int .i64 b.hold.unit, .str b.hold.s, .sl (b.hold.args.map Exp.row)]
def zqQ (b : By) : Bool := inB 0 2 [b.kind] && inB 0 2 [b.order] && inB 1 1000 [b.period, b.last] && inB 0 1000 [b.grace, b.wait, b.voices, b.fund] && inB 0 60 [b.backs, b.jury]
def zjS (seen : List Let) : List Let → Bool
 | [] => true
 | l :: r => zep l.name && zbx 12 l.body && !seen.any (fun x => decide (x.name = l.name)) && zjS (seen ++ [l]) r
theorem zpe {L : List Let} {i : Nat} {l : Let} (h : L[i]? = some l) : zjS (L.take i) (L.drop i) = (zep l.name && zbx 12 l.body && !(L.take i).any (fun x => decide (x.name = l.name)) && zjS (L.take (i + 1)) (L.drop (i + 1))) := by
 obtain ⟨hi, rfl⟩ := lGE.1 h
 rw [List.drop_eq_getElem_cons hi, zjS, List.take_succ_eq_append_getElem hi]
def zqX (b : By) : Bool := zbx 12 b.due && zbx 12 b.fine && zbx 12 b.pay && zbx 12 b.cover && zbx 12 b.hold
def zcW (b : By) : Bool := zqQ b && !(b.sld && decide (b.kind ≠ 1)) && decide (b.lets.length ≤ 20) && zjS [] b.lets && zqX b
set_option maxRecDepth 100000 in
set_option maxHeartbeats 4000000 in
theorem zg5 (b : By) : Fun Tryz.prog 40 [.u (.agg (zbr b))] (· = .u (.bool (zcW b))) := by
 have i1 := zjZ 0 2 [b.kind]
 have i2 := zjZ 0 2 [b.order]
 have i3 := zjZ 1 1000 [b.period, b.last]
 have i4 := zjZ 0 1000 [b.grace, b.wait, b.voices, b.fund]
 have i5 := zjZ 0 60 [b.backs, b.jury]
 simp only [ints, List.map_cons, List.map_nil] at i1 i2 i3 i4 i5
 have hr : ∀ e : Exp, Fun Tryz.prog 89 [.u (.agg [.int .i64 e.op, .int .i64 e.n, .int .i64 e.unit, .str e.s, .sl (e.args.map Exp.row)])] (· = .u (.bool (zbx 12 e))) := fun e => zeI e
 have e1 := hr b.due
 have e2 := hr b.fine
 have e3 := hr b.pay
 have e4 := hr b.cover
 have e5 := hr b.hold
 unfold zcW zqQ zqX
 generalize inB 0 2 [b.kind] = c1 at i1 ⊢
 generalize inB 0 2 [b.order] = c2 at i2 ⊢
 generalize inB 1 1000 [b.period, b.last] = c3 at i3 ⊢
 generalize inB 0 1000 [b.grace, b.wait, b.voices, b.fund] = c4 at i4 ⊢
 generalize inB 0 60 [b.backs, b.jury] = c5 at i5 ⊢
 (refine Fun.of_body Tryz.func40 rfl (by simp) fun Γ hn => ?_); simp only [entry, ziC, ziN, maC, maN, oA, Tryz.ntmps40]
 simp only [zbr]
 repeat' (first
  | ((first | refine zag ?_ | refine zak ?_ | refine zah ?_ | refine zai ?_ | refine zaA ?_ | fail); simp)
  | ((first | refine zau ?_ | refine zar ?_ | fail); simp only [zao])
  | (refine ⟨fun hc => ?_, fun hc => ?_⟩ <;> (try (exfalso; omega)))
  | (refine CallP.fE (i1) (by first | rfl | fail) (by first | (simp; done) | (simp; rfl) | fail) ?_; (try simp))
  | (refine CallP.fE (i2) (by first | rfl | fail) (by first | (simp; done) | (simp; rfl) | fail) ?_; (try simp))
  | (refine CallP.fE (i3) (by first | rfl | fail) (by first | (simp; done) | (simp; rfl) | fail) ?_; (try simp))
  | (refine CallP.fE (i4) (by first | rfl | fail) (by first | (simp; done) | (simp; rfl) | fail) ?_; (try simp))
  | (refine CallP.fE (i5) (by first | rfl | fail) (by first | (simp; done) | (simp; rfl) | fail) ?_; (try simp))
  | fail)
 all_goals try ((refine EndOK.val (.inr rfl) ?_; simp [zaI, zaf, zaw, Tryz.results40]); clear i1 i2 i3 i4 i5 hr e1 e2 e3 e4 e5; grind)
 all_goals
  refine zbT (α := { i : Nat // i ≤ b.lets.length ∧ zjS [] b.lets = zjS (b.lets.take i) (b.lets.drop i) }) [1, 62, 63] (fun i => [(64, .u (.int .i64 i.1))]) (fun i => b.lets.length - i.1) ⟨0, by omega, by simp⟩ ?_ ?_
  ·exact (Wk.cut rfl (by simp [hn, St.lp]) (by simp [wkO, St.lp, zaa, getK, Ob.under, D.under, zad, zae]) (by simp [wkU, St.lp, zal, zaa, getK, D.under]) (by simp [wkE, St.lp, zal, zaa, getK] <;> (try (intros; simp_all; done)) <;> (try (intros; omega)) <;> (try grind)))
  rintro ⟨i, hi, hb⟩
  simp [St.lp, St.only, zal, zaa, getK]
  rcases hx : b.lets[i]? with _ | l
  ·have hge : b.lets.length ≤ i := by simpa using hx
   have hb' : zjS [] b.lets = true := by rw [hb, List.drop_of_length_le hge]; rfl
   generalize zbx 12 b.due = x1 at e1 ⊢
   generalize zbx 12 b.fine = x2 at e2 ⊢
   generalize zbx 12 b.pay = x3 at e3 ⊢
   generalize zbx 12 b.cover = x4 at e4 ⊢
   generalize zbx 12 b.hold = x5 at e5 ⊢
   repeat' (first
  | ((first | refine zag ?_ | refine zak ?_ | fail); simp [hx])
  | (refine ⟨by omega, ?_⟩)
  | (refine zah ?_; simp [hx])
  | (refine zau ?_; simp only [zao])
  | (refine za6 ?_; simp [zao])
  | (refine ⟨fun hc => ?_, fun hc => ?_⟩ <;> (try (exfalso; omega)))
  | (intro hc <;> (try (exfalso; omega)))
  | (refine CallP.fE (e1) (by first | rfl | fail) (by first | simp [hx] <;> rfl | fail) ?_; (try simp [hx]))
  | (refine CallP.fE (e2) (by first | rfl | fail) (by first | simp [hx] <;> rfl | fail) ?_; (try simp [hx]))
  | (refine CallP.fE (e3) (by first | rfl | fail) (by first | simp [hx] <;> rfl | fail) ?_; (try simp [hx]))
  | (refine CallP.fE (e4) (by first | rfl | fail) (by first | simp [hx] <;> rfl | fail) ?_; (try simp [hx]))
  | (refine CallP.fE (e5) (by first | rfl | fail) (by first | simp [hx] <;> rfl | fail) ?_; (try simp [hx]))
  | fail)
   all_goals
    (refine EndOK.val (.inr rfl) ?_; simp [zaI, zaf, zaw, Tryz.results40])
   all_goals
    clear i1 i2 i3 i4 i5 hr e1 e2 e3 e4 e5
    grind
  ·have hlt : i < b.lets.length := (lGE.1 hx).1
   have hnx := zpe hx
   have e6 := zgJ l.name
   have e7 := hr l.body
   have e8 := zeu (b.lets.take i) 100 [U.row (zgs l) 0] _ (fun x _ => zf5 x l) (by simp) (fun _ => rfl) (fun _ => rfl)
   simp only [zeO, zgs, List.map_cons, List.map_nil] at e8
   generalize zep l.name = y1 at e6 hnx
   generalize zbx 12 l.body = y2 at e7 hnx
   generalize ((b.lets.take i).any fun x => decide (x.name = l.name)) = y3 at e8 hnx
   repeat' (first
  | ((first | refine zag ?_ | refine zak ?_ | fail); simp [hx])
  | (refine ⟨by omega, ?_⟩)
  | ((first | refine zah ?_ | refine zai ?_ | refine zat ?_ | fail); simp [hx])
  | ((first | refine zau ?_ | refine zar ?_ | fail); simp only [zao])
  | (refine ⟨?_, by omega⟩)
  | (refine ⟨fun hc => ?_, fun hc => ?_⟩ <;> (try (exfalso; omega)))
  | (intro hc <;> (try (exfalso; omega)))
  | (refine CallP.fE (e6) (by first | rfl | fail) (by first | simp [hx] <;> rfl | fail) ?_; (try simp [hx]))
  | (refine CallP.fE (e7) (by first | rfl | fail) (by first | simp [hx] <;> rfl | fail) ?_; (try simp [hx]))
  | (refine CallP.fE (e8) (by first | rfl | fail) (by first | simp [hx] <;> rfl | fail) ?_; (try simp [hx]))
  | fail)
   all_goals first
    | (refine LoopW.next ⟨i + 1, by omega, by simp_all⟩ (by simp; omega) ?_; exact (Wk.cut rfl (by simp [hn, St.lp]) (by simp [wkO, St.lp, zaa, getK, Ob.under, D.under, zad, zae]) (by simp [wkU, St.lp, zal, zaa, getK, D.under]) (by simp [wkE, St.lp, zal, zaa, getK] <;> (try (intros; simp_all; done)) <;> (try (intros; omega)) <;> (try grind))))
    | ((refine EndOK.val (.inr rfl) ?_; simp [zaI, zaf, zaw, Tryz.results40]); clear i1 i2 i3 i4 i5 hr e1 e2 e3 e4 e5 e6 e7 e8; grind)
end Go.Proofs.YtepiegcjnaohjaaGreatDoor
namespace Go.Proofs.YtepiegcjnaohjaaGreatDoor.Df
open Go Go.VL
end Go.Proofs.YtepiegcjnaohjaaGreatDoor.Df
namespace Go.Proofs.YtepiegcjnaohjaaGreatDoor.Df
open Go Go.VL
end Go.Proofs.YtepiegcjnaohjaaGreatDoor.Df
namespace Go.Proofs.YtepiegcjnaohjaaGreatDoor
open Go Go.VL
open Df in
structure Lw where
 mark : Int
 base : Int
 text : List UInt8
def zeD (l : List Lw) : U := .sl (l.map fun x => [.int .i64 x.mark, .int .i64 x.base, .str x.text])
def iN (l : List Nat) : List Int := l.map (fun n : Nat => (n : Int))
/-- What takes effect, what is void, what is in force at the end; one after the other. -/
def effS (s : List Nat × List Nat × Int × Nat) (x : Lw) : List Nat × List Nat × Int × Nat := if x.base = s.2.2.1 then (s.1 ++ [s.2.2.2], s.2.1, x.mark, s.2.2.2 + 1) else (s.1, s.2.1 ++ [s.2.2.2], s.2.2.1, s.2.2.2 + 1)
def eff (f : Int) (l : List Lw) : List Nat × List Nat × Int × Nat := l.foldl effS ([], [], f, 0)
theorem zfF {α : Type} {p : List α → Prop} (h0 : p []) (hs : ∀ l x, p l → p (l ++ [x])) (l : List α) : p l := by
 have : ∀ r : List α, p r.reverse := fun r => by
  induction r with
  | nil => exact h0
  | cons a r ih => rw [List.reverse_cons]; exact hs _ _ ih
 rw [← List.reverse_reverse l]
 exact this _
theorem zgP (f : Int) (l : List Lw) (x : Lw) : eff f (l ++ [x]) = effS (eff f l) x := by simp [eff]
theorem zpF {l : List Lw} {i : Nat} {x : Lw} (h : l[i]? = some x) (f : Int) : eff f (l.take (i + 1)) = effS (eff f (l.take i)) x := by
 obtain ⟨hi, rfl⟩ := lGE.1 h
 rw [List.take_succ_eq_append_getElem hi, zgP]
theorem zdL (f : Int) : ∀ l : List Lw, (eff f l).2.2.2 = l.length ∧ (eff f l).1.length + (eff f l).2.1.length = l.length ∧ (∀ n ∈ (eff f l).1, n < l.length) ∧ (∀ n ∈ (eff f l).2.1, n < l.length) ∧ (eff f l).2.2.1 = (match (eff f l).1.getLast? with | none => f | some n => ((l[n]?).map (·.mark)).getD 0) := by
 refine zfF (by simp [eff]) ?_
 ·intro l x ih
  obtain ⟨h1, h2, h3, h4, h5⟩ := ih
  rw [zgP, effS]
  split
  ·refine ⟨by simp [h1], by simp; omega, fun n hn => ?_, fun n hn => ?_, ?_⟩
   ·rcases List.mem_append.1 hn with h | h
    ·have := h3 n h; simp; omega
    ·simp at h; subst h; simp [h1]
   ·have := h4 n hn; simp; omega
   ·simp [h1]
  ·refine ⟨by simp [h1], by simp; omega, fun n hn => ?_, fun n hn => ?_, ?_⟩
   ·have := h3 n hn; simp; omega
   ·rcases List.mem_append.1 hn with h | h
    ·have := h4 n h; simp; omega
    ·simp at h; subst h; simp [h1]
   ·show (eff f l).2.2.1 = _
    rw [h5]
    cases hg : (eff f l).1.getLast? with
    | none => rfl
    | some n =>
     have := h3 n (List.mem_of_getLast? hg)
     simp only
     rw [List.getElem?_append_left this]
def zgu (f : Int) (l : List Lw) : Int := (eff f l).2.2.1
def zpx (f : Int) (l : List Lw) : List Int := (eff f l).1.map fun n => ((l[n]?).map (·.mark)).getD 0
def zc1 (f : Int) (l : List Lw) : List Int := f :: zpx f l
def zoW (first : List UInt8) (f : Int) (l : List Lw) : List UInt8 := match (eff f l).1.getLast? with | none => first | some n => ((l[n]?).map (·.text)).getD []
def zgx (f : Int) (l : List Lw) : List Int := iN (eff f l).2.1
theorem zn4 (l : List Nat) (n : Nat) : iN (l ++ [n]) = iN l ++ [(n : Int)] := by simp [iN]
theorem zeb (l : List Nat) : (iN l).length = l.length := by simp [iN]
theorem zhm (l : List Int) (n : Int) : zbn l ++ [[.u (.int .i64 n)]] = zbn (l ++ [n]) := by simp [zbn]
theorem zps (S : D → Option U) (l : List Int) : (zbn l).map (fun r => r.map (frzS S)) = zbn l := by simp [zbn, frzS]
end Go.Proofs.YtepiegcjnaohjaaGreatDoor
namespace Go.Proofs.YtepiegcjnaohjaaGreatDoor.Df
open Go Go.VL
theorem zju (l : List Int) : (zfh l).Pairwise (· ≤ ·) := by
 have := List.pairwise_mergeSort (le := fun (x y : Int) => decide (x ≤ y)) (fun a b c h1 h2 => by simp at *; omega) (fun a b => by simp; omega) l
 simpa [zfh] using this
theorem zlR (l : List Int) : (zfh l).Perm l := List.mergeSort_perm l _
theorem zk1 (zs : List Int) (x : Int) : x ∈ Lib.compact zs ↔ x ∈ zs := by
 unfold Lib.compact Lib.compactUpTo
 simp only [List.mem_map, List.mem_filter, List.mem_range]
 constructor
 ·rintro ⟨j, ⟨hj, _⟩, rfl⟩
  simp [hj]
 ·intro h
  obtain ⟨k, hk⟩ := List.getElem?_of_mem h
  have hkl := (lGE.1 hk).1
  obtain ⟨j, h1, h2, h3, h4⟩ := zlz (P := fun j => zs[j - 1]? = some x) (k := k + 1) (by omega) (by simpa using hk)
  have hjl := (lGE.1 h3).1
  refine ⟨j - 1, ⟨hjl, ?_⟩, ?_⟩
  ·simp only [Lib.keeps, decide_eq_true_eq]
   by_cases h0 : j - 1 = 0
   ·exact .inl h0
   ·right
    have h5 := h4 (j - 1) (by omega) (by omega)
    intro e
    apply h5
    have e2 : zs[j - 1 - 1]? = zs[j - 1]? := by
     rw [List.getElem?_eq_getElem (by omega), List.getElem?_eq_getElem hjl]
     congr 1
     simpa [hjl, show j - 1 - 1 < zs.length by omega] using e.symm
    rw [e2, h3]
  ·have := (lGE.1 h3).2
   simp [hjl, this]
theorem zmA {zs : List Int} (hs : zs.Pairwise (· ≤ ·)) : (Lib.compact zs).Pairwise (· < ·) := by
 unfold Lib.compact Lib.compactUpTo
 rw [List.pairwise_map]
 refine List.Pairwise.imp_of_mem (fun {i j} hi hj hij => ?_) (List.Pairwise.filter _ List.pairwise_lt_range)
 have hj1 := List.mem_range.1 (List.mem_filter.1 hj).1
 have hj2 := (List.mem_filter.1 hj).2
 simp only [Lib.keeps, decide_eq_true_eq] at hj2
 have hil : i < zs.length := by omega
 have hne : zs[j] ≠ zs[j - 1] := by
  rcases hj2 with h | h
  ·omega
  ·simpa [hj1, show j - 1 < zs.length by omega] using h
 have h1 : zs[j - 1] ≤ zs[j] := List.pairwise_iff_getElem.1 hs (j - 1) j (by omega) hj1 (by omega)
 have h2 : zs[i] ≤ zs[j - 1] := by
  rcases Nat.lt_or_ge i (j - 1) with h | h
  ·exact List.pairwise_iff_getElem.1 hs i (j - 1) (by omega) (by omega) h
  ·obtain rfl : i = j - 1 := by omega
   exact Int.le_refl _
 simp [hj1, hil]
 omega
def zgz (nx : List Int) : List Int := Lib.compact (zfh nx)
theorem zd6 (nx : List Int) (x : Int) : x ∈ zgz nx ↔ x ∈ nx := by rw [zgz, zk1]; exact (zlR nx).mem_iff
theorem zjP {n : Nat} (nx : List Int) (h : ∀ x ∈ nx, 0 ≤ x ∧ x < (n : Int)) : (zgz nx).length ≤ n := by
 have h1 : ((zgz nx).map Int.toNat).Nodup := by
  rw [List.Nodup, List.pairwise_map]
  refine List.Pairwise.imp_of_mem (fun {a b} ha hb hab e => ?_) (zmA (zju nx))
  have := h a ((zd6 nx a).1 ha)
  have := h b ((zd6 nx b).1 hb)
  omega
 have h2 := zln (n := n) h1 fun x hx => by
  obtain ⟨y, hy, rfl⟩ := List.mem_map.1 hx
  have := h y ((zd6 nx y).1 hy)
  omega
 simpa using h2
theorem PM.take {n : Nat} {l : List Con} {bg r all rest t st L} {v : Nat} {es : List Nat} (hl : OkC n l) (hv : (v : Int) ∈ all) (hm : ∀ i ∈ es, i ∈ zcy l v) (h : PM n l bg r all rest v es t st L) : ∀ q, q ≤ es.length → ∃ L', PM n l bg r all rest v (es.drop q) (t + q) ((es.take q).foldl (zlY l) st) L'
 | 0, _ => ⟨L, by simpa using h⟩
 | q + 1, hq => by
  obtain ⟨L1, h1⟩ := PM.take hl hv hm h q (by omega)
  have hx : es[q]? = some es[q] := List.getElem?_eq_getElem (by omega)
  obtain ⟨c, h2, h3⟩ := zfJ.1 (hm es[q] (List.getElem_mem _))
  rw [List.drop_eq_getElem_cons (by omega)] at h1
  obtain ⟨L2, h4⟩ := h1.step hl h2 hv h3
  refine ⟨L2, ?_⟩
  rw [zdB hx, List.foldl_append]
  exact h4
theorem PI.take {n : Nat} {l : List Con} {bg r todo t g L} (hl : OkC n l) (h : PI n l bg r todo t g L) : ∀ p, p ≤ todo.length → ∃ L' u, PM n l bg r todo (todo.drop p) u [] (t + p * l.length) ((todo.take p).foldl (zh1 l) (g, [])) L'
 | 0, _ => ⟨L, 0, by simpa using h.start⟩
 | p + 1, hp => by
  obtain ⟨L1, u, h1⟩ := PI.take hl h p (by omega)
  have hx : todo[p]? = some todo[p] := List.getElem?_eq_getElem (by omega)
  rw [List.drop_eq_getElem_cons (by omega)] at h1
  obtain ⟨L2, h2⟩ := h1.visit hl (List.getElem_mem _)
  refine ⟨L2, todo[p].toNat, ?_⟩
  rw [zdB hx, List.foldl_append, Nat.succ_mul, ← nAA]
  exact h2
def zqi (l : List Con) (m : Nat) (g : GS) : List (Nat × Ob) := [(5, .box [.u (consU l), .u (.sl ((List.range m).map fun v => [ints (zgA (zcy l v))])), .vec 1 m, .vec 3 m, .vec 4 m]), (1, .vec 3 1 (zbn (lst m g.val))), (3, .vec 3 1 (zbn (lst m (zhL (-1) g)))), (4, .vec 4 1 (zdg (bst m g.kn)))]
end Go.Proofs.YtepiegcjnaohjaaGreatDoor.Df
namespace Go.Proofs.YtepiegcjnaohjaaGreatDoor
open Go Go.VL
theorem zlW {lets : List Let} {e : Exp} (h : zgG lets e = true) : lets.length ≤ 20 ∧ zbx 12 e = true ∧ ∀ l ∈ lets, zbx 12 l.body = true := by
 simp only [zgG, Bool.and_eq_true, decide_eq_true_eq, Bool.not_eq_true', List.any_eq_false, Bool.not_eq_true] at h
 exact ⟨h.1.1, h.1.2, fun l hl => by have := h.2 l hl; simpa using this⟩
abbrev Tab := List (Int × Int × Bool)
abbrev TM := Tab → Except Int Int × Tab
def TM.bind (f : TM) (g : Int → TM) : TM := fun t => match f t with | (.ok v, t') => g v t' | (.error e, t') => (.error e, t')
def TM.ret (x : Except Int Int) : TM := fun t => (x, t)
theorem TM.bind_ok {f : TM} {g : Int → TM} {t t' : Tab} {v : Int} (h : f t = (.ok v, t')) : f.bind g t = g v t' := by unfold TM.bind; rw [h]
def inC (v : Int) : Prop := -1099511627776 ≤ v ∧ v ≤ 1099511627776
/-- What is known of a table: as many entries as lets, and small values. -/
structure TabOK (L : Nat) (t : Tab) : Prop where
 len : t.length = L
 small : ∀ (i : Nat) (v e : Int) (d : Bool), t[i]? = some (v, e, d) → inC v
def TMok (L : Nat) (f : TM) : Prop := ∀ t, TabOK L t → TabOK L (f t).2 ∧ (∀ v, (f t).1 = .ok v → inC v) ∧ (∀ e, (f t).1 = .error e → e ≠ 0)
theorem TMok.bind {L f g} (hf : TMok L f) (hg : ∀ a, inC a → TMok L (g a)) : TMok L (TM.bind f g) := fun t ht => by
 obtain ⟨h1, h2, h3⟩ := hf t ht
 unfold TM.bind
 rcases hft : f t with ⟨r | v, t'⟩
 ·rw [hft] at h1 h3
  refine ⟨h1, ?_, ?_⟩
  ·intro v h; cases h
  ·intro e h; exact h3 e h
 ·rw [hft] at h1 h2
  exact hg v (h2 v rfl) t' h1
theorem TMok.ret {L} {x : Except Int Int} (h : ∀ v, x = .ok v → inC v) (he : ∀ e, x = .error e → e ≠ 0) : TMok L (TM.ret x) := fun t ht => ⟨ht, h, he⟩
theorem TMok.ok {L} {v : Int} (h : inC v) : TMok L (TM.ret (.ok v)) := .ret (fun w hw => by cases hw; exact h) (fun e he => by cases he)
end Go.Proofs.YtepiegcjnaohjaaGreatDoor
namespace Go.Proofs.YtepiegcjnaohjaaGreatDoor
open Go Go.VL
structure Tok where
 kind : Int
 text : List UInt8
 n : Int
 pos : Int
 deriving DecidableEq, Inhabited
def Tok.row (t : Tok) : List U := [.int .i64 t.kind, .str t.text, .int .i64 t.n, .int .i64 t.pos]
def zcc (c : UInt8) : Bool := decide (c.toNat = 32) || decide (c.toNat = 9) || decide (c.toNat = 10)
def zde (c : UInt8) : Bool := zdj c || zbv c
def zbq (s : List UInt8) : Int := s.foldl (fun n c => 10 * n + ((c.toNat : Int) - 48)) 0
def zf7 (s : List UInt8) : Option Int :=
 if s = [] ∨ zcI zbv s ≠ s.length ∨ (s.head? = some 48 ∧ s ≠ [48]) ∨ 13 < s.length then none else if 1099511627776 < zbq s then none else some (zbq s)
theorem zeW (s : List UInt8) (c : UInt8) : zbq (s ++ [c]) = 10 * zbq s + ((c.toNat : Int) - 48) := by simp [zbq]
theorem zfS : ∀ (n : Nat) (s : List UInt8), s.length = n → (∀ c ∈ s, zbv c = true) → 0 ≤ zbq s ∧ zbq s < 10 ^ n
 | 0, s, h, _ => by have := List.eq_nil_of_length_eq_zero h; subst this; simp [zbq]
 | n + 1, s, h, hd => by
  have hne : s ≠ [] := fun e => by rw [e] at h; simp at h
  obtain ⟨t, c, rfl⟩ : ∃ t c, s = t ++ [c] := ⟨s.dropLast, s.getLast hne, (List.dropLast_concat_getLast hne).symm⟩
  have h1 := zfS n t (by simpa using h) (fun x hx => hd x (by simp [hx]))
  have h2 := hd c (by simp)
  simp only [zbv, Bool.and_eq_true, decide_eq_true_eq] at h2
  rw [zeW]
  have : (10 : Int) ^ (n + 1) = 10 * 10 ^ n := by rw [Int.pow_succ]; omega
  omega
end Go.Proofs.YtepiegcjnaohjaaGreatDoor
namespace Go.Proofs.YtepiegcjnaohjaaGreatDoor
open Go Go.VL
def signsL : List (List UInt8) := [[61, 61], [59], [44], [61], [60], [43], [45], [42], [47], [40], [41]]
def zhN (s : List UInt8) : Except Int Tok := match s with
 | [] => .error 0
 | c :: r => if zdj c = true then
   if zjk ((c :: r).take (zcI zde (c :: r))) = true then .ok ⟨1, (c :: r).take (zcI zde (c :: r)), 0, 0⟩ else .error 13
  else if zbv c = true then
   match zf7 ((c :: r).take (zcI zbv (c :: r))) with | some n => .ok ⟨2, (c :: r).take (zcI zbv (c :: r)), n, 0⟩ | none => .error 3
  else match signsL.find? fun x => x.isPrefixOf (c :: r) with | some x => .ok ⟨3, x, 0, 0⟩ | none => .error 11
def nextD (s : List UInt8) : D := match zhN s with | .ok t => .tup [.u (.agg [.int .i64 t.kind, .str t.text, .int .i64 t.n, .int .i64 t.pos]), .u (.int .i64 0)] | .error e => .tup [.u (.agg [.int .i64 0, .str [], .int .i64 0, .int .i64 0]), .u (.int .i64 e)]
end Go.Proofs.YtepiegcjnaohjaaGreatDoor
namespace Go.Proofs.YtepiegcjnaohjaaGreatDoor
open Go Go.VL
def za5 (f : Int) : List Lw → List Lw
 | [] => []
 | x :: l => if x.base = f then x :: za5 x.mark l else za5 f l
def zcl (f : Int) (l : List Lw) : Int := (za5 f l).foldl (fun _ x => x.mark) f
theorem zmv (f : Int) : ∀ l : List Lw, l.foldl (fun _ x => x.mark) f = (match l.getLast? with | none => f | some x => x.mark) := fun l => by
 refine zfF (p := fun l => l.foldl (fun _ x => x.mark) f = (match l.getLast? with | none => f | some x => x.mark)) rfl ?_ l
 intro l x _
 simp
theorem zhq (f : Int) (a b : List Lw) : za5 f (a ++ b) = za5 f a ++ za5 (zcl f a) b := by
 induction a generalizing f with
 | nil => simp [za5, zcl]
 | cons x a ih =>
  rw [List.cons_append, za5, za5]
  by_cases h : x.base = f
  ·rw [if_pos h, if_pos h, ih, List.cons_append, zcl, zcl, za5, if_pos h, List.foldl_cons]
  ·rw [if_neg h, if_neg h, ih, zcl, zcl, za5, if_neg h]
theorem zjV (f : Int) (a b : List Lw) : zcl f (a ++ b) = zcl (zcl f a) b := by
 rw [zcl, zhq, List.foldl_append]; rfl
theorem ze8 (f : Int) (l : List Lw) (x : Lw) : za5 f (l ++ [x]) = if x.base = zcl f l then za5 f l ++ [x] else za5 f l := by
 rw [zhq, za5]
 split
 ·rw [za5]
 ·rw [za5, List.append_nil]
theorem zin (f : Int) (l : List Lw) : za5 f (za5 f l) = za5 f l := by
 induction l generalizing f with
 | nil => rfl
 | cons x l ih =>
  rw [za5]
  by_cases h : x.base = f
  ·rw [if_pos h, za5, if_pos h, ih]
  ·rw [if_neg h, ih]
theorem zgQ (f : Int) : ∀ l : List Lw, (eff f l).1.map (fun n => l[n]?) = (za5 f l).map some ∧ (eff f l).2.2.1 = zcl f l := by
 refine zfF (by simp [eff, za5, zcl]) ?_
 intro l x ⟨h1, h2⟩
 obtain ⟨f1, _, f3, _, _⟩ := zdL f l
 have hc : (eff f l).1.map (fun n => (l ++ [x])[n]?) = (za5 f l).map some := by
  rw [← h1]
  exact List.map_congr_left fun n hn => by rw [List.getElem?_append_left (f3 n hn)]
 rw [zgP, effS, ze8, zjV, h2]
 by_cases h : x.base = zcl f l
 ·rw [if_pos h, if_pos h]
  refine ⟨?_, by simp [zcl, za5, h]⟩
  rw [List.map_append, hc, List.map_append]
  simp [f1]
 ·rw [if_neg h, if_neg h]
  refine ⟨hc, ?_⟩
  have e : zcl (zcl f l) [x] = zcl f l := by rw [zcl, za5, if_neg h]; rfl
  rw [e]
theorem zof (f : Int) (l : List Lw) : zgu f l = zcl f l := (zgQ f l).2
theorem zgN (f : Int) (l : List Lw) : zpx f l = (za5 f l).map (·.mark) := by
 have h := congrArg (List.map fun o : Option Lw => (o.map (·.mark)).getD 0) (zgQ f l).1
 simp only [List.map_map] at h
 unfold zpx
 exact h
theorem zpw (f : Int) (l : List Lw) : (eff f l).1.length = (za5 f l).length := by
 have h := congrArg List.length (zgQ f l).1
 simpa using h
theorem ze0 (f : Int) (l : List Lw) : (za5 f l).length + (zgx f l).length = l.length := by
 have := (zdL f l).2.1
 rw [zgx, zeb, ← zpw]
 exact this
theorem zoS (f : Int) : ∀ l : List Lw, ∀ n, n ∈ (eff f l).2.1 ↔ ∃ x, l[n]? = some x ∧ x.base ≠ zcl f (l.take n) := by
 refine zfF (by intro n; simp [eff]) ?_
 intro l x ih n
 obtain ⟨f1, _, _, f4, _⟩ := zdL f l
 have h2 := (zgQ f l).2
 have key : ∀ n, n < l.length → ((∃ y, (l ++ [x])[n]? = some y ∧ y.base ≠ zcl f ((l ++ [x]).take n)) ↔ (∃ y, l[n]? = some y ∧ y.base ≠ zcl f (l.take n))) := fun n hn => by
  rw [List.getElem?_append_left hn, List.take_append_of_le_length (by omega)]
 have last : (∃ y, (l ++ [x])[l.length]? = some y ∧ y.base ≠ zcl f ((l ++ [x]).take l.length)) ↔ x.base ≠ zcl f l := by
  simp
 have over : ∀ n, l.length < n → ¬ ∃ y, (l ++ [x])[n]? = some y ∧ y.base ≠ zcl f ((l ++ [x]).take n) := fun n hn ⟨y, h, _⟩ => by
  have := (lGE.1 h).1; simp at this; omega
 rw [zgP, effS, h2, f1]
 rcases Nat.lt_trichotomy n l.length with hn | rfl | hn
 ·rw [key n hn, ← ih n]
  split
  ·rfl
  ·simp; omega
 ·rw [last]
  split
  ·rename_i h
   exact ⟨fun hm => absurd (f4 _ hm) (by omega), fun hc => absurd h hc⟩
  ·rename_i h
   exact ⟨fun _ => h, fun _ => by simp⟩
 ·refine ⟨fun hm => ?_, fun hc => absurd hc (over n hn)⟩
  exfalso
  split at hm
  ·have := f4 _ hm; omega
  ·rcases List.mem_append.1 hm with h | h
   ·have := f4 _ h; omega
   ·simp at h; omega
theorem zim (f : Int) (l : List Lw) (i : Nat) : za5 f l = za5 f (l.take i) ++ za5 (zcl f (l.take i)) (l.drop i) := by
 conv => lhs; rw [← List.take_append_drop i l]
 exact zhq f _ _
/-- The chain at a place. -/
theorem zjd (f : Int) (l : List Lw) (i : Nat) : (zc1 f l)[(za5 f (l.take i)).length]? = some (zcl f (l.take i)) := by
 rw [zc1, zgN, zim f l i, List.map_append, ← List.cons_append]
 have hlt : (za5 f (l.take i)).length < (f :: (za5 f (l.take i)).map (·.mark)).length := by simp
 rw [List.getElem?_append_left hlt, zcl, zmv]
 refine zfF (p := fun K : List Lw => (f :: K.map (·.mark))[K.length]? = some (match K.getLast? with | none => f | some x => x.mark)) rfl ?_ (za5 f (l.take i))
 intro K x _
 simp
theorem zmE {f : Int} {l : List Lw} {i : Nat} {x : Lw} (hx : l[i]? = some x) (h : x.base = zcl f (l.take i)) : (zc1 f l)[(za5 f (l.take i)).length + 1]? = some x.mark ∧ za5 f (l.take (i + 1)) = za5 f (l.take i) ++ [x] := by
 obtain ⟨hi, rfl⟩ := lGE.1 hx
 have e : za5 f (l.take (i + 1)) = za5 f (l.take i) ++ [l[i]] := by rw [List.take_succ_eq_append_getElem hi, ze8, if_pos h]
 refine ⟨?_, e⟩
 have hc := zjd f l (i + 1)
 rw [e, List.length_append] at hc
 rw [show (za5 f (l.take i)).length + 1 = (za5 f (l.take i)).length + [l[i]].length by simp, hc]
 rw [List.take_succ_eq_append_getElem hi, zjV]
 simp [zcl, za5, h]
theorem zn6 {f : Int} {l : List Lw} {i : Nat} {x : Lw} (hx : l[i]? = some x) (h : x.base ≠ zcl f (l.take i)) : za5 f (l.take (i + 1)) = za5 f (l.take i) := by
 obtain ⟨hi, rfl⟩ := lGE.1 hx
 rw [List.take_succ_eq_append_getElem hi, ze8, if_neg h]
theorem zki (f : Int) (l : List Lw) : (zc1 f l).length = (za5 f l).length + 1 := by rw [zc1, zgN]; simp
theorem zmF (f : Int) (l : List Lw) : (zc1 f l).length + (zgx f l).length = l.length + 1 := by have := ze0 f l; rw [zki]; omega
theorem zmG (f : Int) (l : List Lw) : (zc1 f l)[(za5 f l).length]? = some (zgu f l) := by
 have := zjd f l l.length
 rwa [List.take_length, ← zof] at this
theorem zmi (f : Int) (l : List Lw) : zc1 f (za5 f l) = zc1 f l := by rw [zc1, zc1, zgN, zgN, zin]
theorem znT (f : Int) (l : List Lw) : zgx f (za5 f l) = [] := by
 have h := ze0 f (za5 f l)
 rw [zin] at h
 exact List.eq_nil_of_length_eq_zero (by omega)
end Go.Proofs.YtepiegcjnaohjaaGreatDoor
namespace Go.Proofs.YtepiegcjnaohjaaGreatDoor
open Go Go.VL Go.ChangeShapes Go.WideShapes Go.ChangeAt Go.RowKit
theorem Tryz.own : ownKnob Tryz.prog.godebug = none := by kernel_rfl
theorem Tryz.zrh : laidOutB Tryz.prog = true := by kernel_rfl
theorem Tryz.zvJ : zh5 Tryz.prog = true := by kernel_rfl
theorem zrU {u : U} (h : ArgU Tryz.prog 3 u) : ∃ n, u = .int .i64 n := by
 obtain ⟨n, h1, _⟩ := (h.one (by simp) (by simp)).of_int io3
 exact ⟨n, by simpa using h1⟩
end Go.Proofs.YtepiegcjnaohjaaGreatDoor
namespace Go.Proofs.YtepiegcjnaohjaaGreatDoor
open Go Go.VL
theorem zrR {r : List U} (h : HasRow Tryz.prog 39 r) : ∃ c : Lw, r = [.int .i64 c.mark, .int .i64 c.base, .str c.text] ∧ True := by
 obtain ⟨rs, hr, h⟩ := h.of_struct zt4
 match rs, h with
 | [a1, a2, a3], h =>
  obtain ⟨h1, h2, h3, _⟩ := h
  obtain ⟨x1, rfl, _⟩ := h1.of_int io3
  obtain ⟨x2, rfl, _⟩ := h2.of_int io3
  obtain ⟨x3, rfl, _⟩ := h3.of_str (by simp)
  exact ⟨⟨x1, x2, x3⟩, hr, trivial⟩
theorem zqM {u : U} (h : ArgU Tryz.prog 22 u) : ∃ l : List Lw, u = zeD l := by
 obtain ⟨rows, h1, _, h2⟩ := (h.one (by simp) (by simp)).of_slice zuo
 obtain ⟨l, rfl, _⟩ := rows_list (fun x : Lw => [.int .i64 x.mark, .int .i64 x.base, .str x.text]) (fun _ => True) (rows := rows) fun r hr => zrR (h2 r hr)
 exact ⟨l, by simpa [zeD] using h1⟩
end Go.Proofs.YtepiegcjnaohjaaGreatDoor
namespace Go.Proofs.YtepiegcjnaohjaaGreatDoor.Df
open Go Go.VL
attribute [local simp] zc7 zb5 evPure opd uOf zaG St.put St.at getK binD binI binS binB nilD aggD zgO zhJ lookD lookR zcE Go.VL.nextD zcG zhP zhK zf0 zb4 mkV zbl zbf zbe zbd zc4 za9 zbt zbG mapEff zdk zfz Key.kk shiftI arith unD convD zdN loadD cellsAt fieldAddrD fieldD indexAddrD indexD sliceD cutD lenD minmaxD nilCheckD buildD fillD zb1 zdf ze2 setAll zcU zeF zcv zhx zcs St.add zaM zbP rowsOf zdH zcJ zam zac zaa zbi zcL zaK entry zbE zbI valD zb8 zcf zgD zdr zds zb2 zbK zaz zaX zbz delAll effD St.effS zc5 zbg zaZ zc6 zbh za1 zch za0 zaS zci zcV zbL zcb zbs zb9 zca zaR mkD zbk zbC zbQ zaz zcu D.ids Op.operands Call.operands zbu makeIfD makeFuncD typeAssertD zhI zdy zdz zhH zcF IntKind.bits zcO List.take_of_length_le List.range_succ
attribute [local irreducible] V G H HD HD2 zao Eff CallP CallV EndOK Fun Ret FinOK LoopI LoopW EndW
theorem rsame_fun (a b : List Int) (hl : a.length ≤ 1000000) : Fun Tryz.prog 16 [.u (ints a), .u (ints b)] (· = .u (.bool (decide (a = b)))) := by
 simp only [ints]
 by_cases hab : a.length = b.length
 ·(refine Fun.of_body Tryz.func16 rfl (by simp) fun Γ hn => ?_); simp only [entry, ziC, ziN, maC, maN, oA, Tryz.ntmps16]
  repeat' (first
  | ((first | refine zag ?_ | refine zak ?_ | refine zah ?_ | refine zai ?_ | refine zaA ?_ | fail); simp [hab])
  | (refine zar ?_; simp only [zao])
  | fail)
  refine zbT (α := { i : Nat // i ≤ a.length ∧ a.take i = b.take i }) [0, 1] (fun i => [(5, .u (.int .i64 i.1))]) (fun i => a.length - i.1) ⟨0, by omega, by simp⟩ ?_ ?_
  ·exact (Wk.cut rfl (by simp [hn, St.lp]) (by simp [wkO, St.lp, zaa, getK, Ob.under, D.under, zad, zae]) (by simp [wkU, St.lp, zal, zaa, getK, D.under]) (by simp [wkE, St.lp, zal, zaa, getK] <;> (try (intros; simp_all; done)) <;> (try (intros; omega)) <;> (try grind)))
  rintro ⟨i, hi, hb⟩
  simp [St.lp, St.only, zal, zaa, getK]
  rcases hx : a[i]? with _ | x
  ·have hge : a.length ≤ i := by simpa using hx
   obtain rfl : i = a.length := by omega
   have he : a = b := by rw [List.take_length, hab, List.take_length] at hb; exact hb
   have hge2 : b.length ≤ a.length := by omega
   repeat' (first
  | ((first | refine zag ?_ | refine zak ?_ | refine zah ?_ | refine zai ?_ | fail); simp [hx, hab])
  | (refine zau ?_; simp only [zao])
  | (refine za6 ?_; simp [zao])
  | fail)
   (refine EndOK.val (.inr rfl) ?_; simp [zaI, zaf, zaw, Tryz.results16])
   simp [he]
  ·have hlt : i < a.length := (lGE.1 hx).1
   have hlt2 : i < b.length := by omega
   obtain ⟨y, hy⟩ : ∃ y, b[i]? = some y := ⟨_, List.getElem?_eq_getElem hlt2⟩
   by_cases hxy : x = y
   ·subst hxy
    repeat' (first
  | ((first | refine zag ?_ | refine zbW ?_ | refine zak ?_ | fail); simp [hx, hy, hab])
  | (refine ⟨by omega, ?_⟩)
  | ((first | refine zah ?_ | refine zai ?_ | fail); simp [hx, hy, hab])
  | (refine zcH ?_)
  | (refine hk _ ?_; clear hk k; simp only [zao])
  | (refine zbV rfl (by kernel_rfl) (by kernel_rfl) fun k hk => ?_; simp [hx, hy, hab])
  | (refine zat ?_; simp [hx, hy, hab])
  | (refine zar ?_; simp only [zao])
  | (refine ⟨?_, by omega⟩)
  | (intro hc <;> (try (exfalso; omega)))
  | fail)
    refine LoopW.next ⟨i + 1, by omega, by rw [zdB hx, zdB hy, hb]⟩ (by simp; omega) ?_
    exact (Wk.cut rfl (by simp [hn, St.lp]) (by simp [wkO, St.lp, zaa, getK, Ob.under, D.under, zad, zae]) (by simp [wkU, St.lp, zal, zaa, getK, D.under]) (by simp [wkE, St.lp, zal, zaa, getK] <;> (try (intros; simp_all; done)) <;> (try (intros; omega)) <;> (try grind)))
   ·have hne : a ≠ b := fun h => by subst h; rw [hx] at hy; cases hy; exact hxy rfl
    repeat' (first
  | ((first | refine zag ?_ | refine zbW ?_ | refine zak ?_ | refine zah ?_ | refine zai ?_ | fail); simp [hx, hy, hab, hxy])
  | (refine zcH ?_)
  | (refine hk _ ?_; clear hk k; simp only [zao])
  | (refine zbV rfl (by kernel_rfl) (by kernel_rfl) fun k hk => ?_; simp [hx, hy, hab, hxy])
  | ((first | refine zau ?_ | refine zar ?_ | fail); simp only [zao])
  | (refine ⟨?_, by omega⟩)
  | (intro hc <;> (try (exfalso; omega)))
  | fail)
    (refine EndOK.val (.inr rfl) ?_; simp [zaI, zaf, zaw, Tryz.results16])
    simp [hne]
 ·have hne : a ≠ b := fun h => hab (by rw [h])
  (refine Fun.of_body Tryz.func16 rfl (by simp) fun Γ hn => ?_); simp only [entry, ziC, ziN, maC, maN, oA, Tryz.ntmps16]
  repeat' (first
  | ((first | refine zag ?_ | refine zak ?_ | refine zah ?_ | refine zai ?_ | fail); simp [hab])
  | (refine zau ?_; simp only [zao])
  | (refine ⟨?_, by omega⟩)
  | (intro hc <;> (try (exfalso; omega)))
  | fail)
  (refine EndOK.val (.inr rfl) ?_; simp [zaI, zaf, zaw, Tryz.results16])
  simp [hne]
end Go.Proofs.YtepiegcjnaohjaaGreatDoor.Df
namespace Go.Proofs.YtepiegcjnaohjaaGreatDoor
open Go Go.VL
open Df in
attribute [local simp] zc7 zb5 evPure opd uOf zaG St.put St.at getK binD binI binS binB nilD aggD zgO zhJ lookD lookR zcE Go.VL.nextD zcG zhP zhK zf0 zb4 mkV zbl zbf zbe zbd zc4 za9 zbt zbG mapEff zdk zfz Key.kk shiftI arith unD convD zdN loadD cellsAt fieldAddrD fieldD indexAddrD indexD sliceD cutD lenD minmaxD nilCheckD buildD fillD zb1 zdf ze2 setAll zcU zeF zcv zhx zcs St.add zaM zbP rowsOf zdH zcJ zam zac zaa zbi zcL zaK entry zbE zbI valD zb8 zcf zgD zdr zds zb2 zbK zaz zaX zbz delAll effD St.effS zc5 zbg zaZ zc6 zbh za1 zch za0 zaS zci zcV zbL zcb zbs zb9 zca zaR mkD zbk zbC zbQ zaz zcu D.ids Op.operands Call.operands zbu makeIfD makeFuncD typeAssertD zhI zdy zdz zhH zcF IntKind.bits zcO List.take_of_length_le List.range_succ
attribute [local irreducible] V G H HD HD2 zao Eff CallP CallV EndOK Fun Ret FinOK LoopI LoopW EndW
open Df in
theorem zfr (f : Int) (l : List Lw) (hl : l.length ≤ 1000000) : Fun Tryz.prog 52 [.u (.int .i64 f), .u (zeD l)] (· = .tup [.u (ints (iN (eff f l).1)), .u (ints (iN (eff f l).2.1))]) := by
 unfold zeD
 (refine Fun.of_bodyW Tryz.func52 rfl (by simp) fun Γ hn => ?_); simp only [entry, ziC, ziN, maC, maN, oA, Tryz.ntmps52]
 repeat' (first
  | ((first | refine zag ?_ | refine zak ?_ | refine zah ?_ | refine zaA ?_ | fail); simp)
  | fail)
 refine zmK _ (Wk.own 4 3 1 (by decide) rfl) ?_
 simp [St.own]
 refine zmK _ (Wk.own 5 3 1 (by decide) rfl) ?_
 simp [St.own]
 refine zcg (α := { i : Nat // i ≤ l.length }) [8, 9] (fun i => [(0, .u (.int .i64 (eff f (l.take i.1)).2.2.1)), (4, .vec 0 (eff f (l.take i.1)).1.length), (5, .vec 1 (eff f (l.take i.1)).2.1.length), (10, .u (.int .i64 i.1))])
  (fun i => [(0, .vec 3 1 (zbn (iN (eff f (l.take i.1)).1))), (1, .vec 3 1 (zbn (iN (eff f (l.take i.1)).2.1)))]) 2 (fun i => l.length - i.1) ⟨0, by omega⟩ ?_ ?_
 ·exact (Wk.cut rfl (by simp [hn, St.lp]) (by simp [wkO, St.lp, zaa, getK, Ob.under, D.under, zad, zae, eff, zbn, iN]) (by simp [wkU, St.lp, zal, zaa, getK, D.under, eff, zbn, iN]) (by simp [wkE, St.lp, zal, zaa, getK, eff, zbn, iN] <;> (try (intros; simp_all; done)) <;> (try (intros; omega)) <;> (try grind)))
 rintro ⟨i, hi⟩
 simp [St.lp, St.only, zal, zaa, getK]
 rcases hx : l[i]? with _ | x
 ·have hge : l.length ≤ i := by simpa using hx
  obtain rfl : i = l.length := by omega
  simp only [List.take_length]
  repeat' (first
  | ((first | refine zag ?_ | refine zak ?_ | refine zah ?_ | fail); simp [hx])
  | (refine zau ?_; simp only [zao])
  | (refine za6 ?_; simp [zao])
  | fail)
  (refine EndW.frzN 2 ?_; simp [frzN, frz1, zaC, zaB, St.frz, St.frzS, frzS, fv, zaQ, za2, za3, frzObS, zay, zas, del, frz, za8, zps, zdS, zaE, zeb])
  refine EndW.norm (EndW.here ?_)
  (refine EndOK.val (.inr rfl) ?_; simp [zaI, zaf, zaw, Tryz.results52, zaB, zaC, zcp, zcq, frz, za8, frzS, fv, zaQ, za2, za3, frzObS, zay, zas, zbS, zb6, zb7, zbc, zdS, zaE, zeb])
  simp [ints]
 ·have hlt : i < l.length := (lGE.1 hx).1
  obtain ⟨f1, f2, _, _, _⟩ := zdL f (l.take i)
  have hst := zpF hx f
  have htl : (l.take i).length = i := by rw [List.length_take]; omega
  rw [htl] at f1 f2
  rw [effS, f1] at hst
  generalize eff f (l.take i) = E at *
  obtain ⟨G, V, m, k⟩ := E
  simp only at f1 f2 hst
  have hlrG : zii 1 (zbn (iN G)) := zdJ _
  have hlrV : zii 1 (zbn (iN V)) := zdJ _
  have hsG := zhm (iN G) i
  have hsV := zhm (iN V) i
  by_cases hb : x.base = m
  ·rw [if_pos hb] at hst
   have hk2 : k = i := f1
   have e1 := zn4 G i
   repeat' (first
  | ((first | refine zag ?_ | refine zhD rfl ?_ | refine zhE rfl ?_ | refine zak ?_ | fail); simp [hx, hb, zaE, zeb, hlrG, hsG])
  | (refine ⟨by omega, ?_⟩)
  | ((first | refine zah ?_ | refine zai ?_ | fail); simp [hx, hb, zaE, zeb, hlrG, hsG])
  | (refine zgp (hC _ (by kernel_rfl)) (hk _ ?_); clear hC hk C k; simp only [zao])
  | (refine zhB rfl (by kernel_rfl) (by kernel_rfl) (by simp [hn]) fun C k hC hk => ?_; simp [hx, hb, zaE, zeb, hlrG, hsG])
  | (refine zat ?_; simp [hx, hb, zaE, zeb, hlrG, hsG])
  | (refine zar ?_; simp only [zao])
  | (refine ⟨?_, by omega⟩)
  | (intro hc <;> (try (exfalso; omega)))
  | fail)
   refine LoopW.next ⟨i + 1, by omega⟩ (by simp; omega) ?_
   exact (Wk.ren ((fun i => if i = 0 then 4 else i)) rfl (by first | (simp [hn]; done) | (intro i hi; rw [hn] at hi; constructor <;> (try simp) <;> (try (intro _)) <;> omega)) (by simp [ziB, St.lp, zal, zaa, getK, zac, zam, D.under, D.le, D.ren, zaq, zan, e1, hst] <;> (try (intros; simp_all; done)) <;> (try omega)) (by simp [wkR, St.lp, zaa, getK, zac, zam, obR, leU, zbR, zaT, Ob.under, D.under, D.le, D.ren, zaq, zan, e1, hst] <;> (try (intros; simp_all; done)) <;> (try omega)) (by simp [zaq, zan, e1, hst]))
  ·rw [if_neg hb] at hst
   have hk2 : k = i := f1
   have e1 := zn4 V i
   repeat' (first
  | ((first | refine zag ?_ | refine zak ?_ | fail); simp [hx, hb, zaE, zeb, hlrV, hsV])
  | (refine ⟨by omega, ?_⟩)
  | ((first | refine zah ?_ | refine zai ?_ | refine zat ?_ | fail); simp [hx, hb, zaE, zeb, hlrV, hsV])
  | (refine zar ?_; simp only [zao])
  | (refine za6 ?_; simp [zao])
  | (refine ⟨?_, by omega⟩)
  | (intro hc <;> (try (exfalso; omega)))
  | fail)
   refine LoopW.next ⟨i + 1, by omega⟩ (by simp; omega) ?_
   exact (Wk.ren ((fun i => if i = 1 then 4 else i)) rfl (by first | (simp [hn]; done) | (intro i hi; rw [hn] at hi; constructor <;> (try simp) <;> (try (intro _)) <;> omega)) (by simp [ziB, St.lp, zal, zaa, getK, zac, zam, D.under, D.le, D.ren, zaq, zan, e1, hst] <;> (try (intros; simp_all; done)) <;> (try omega)) (by simp [wkR, St.lp, zaa, getK, zac, zam, obR, leU, zbR, zaT, Ob.under, D.under, D.le, D.ren, zaq, zan, e1, hst] <;> (try (intros; simp_all; done)) <;> (try omega)) (by simp [zaq, zan, e1, hst]))
theorem zfP (f : Int) (l : List Lw) (hl : l.length ≤ 1000000) : Fun Tryz.prog 15 [.u (.int .i64 f), .u (zeD l)] (· = .tup [.u (.int .i64 (zgu f l)), .u (ints (zgx f l))]) := by
 have he := zfr f l hl
 obtain ⟨f1, f2, f3, _, f5⟩ := zdL f l
 unfold zgu zgx
 rw [f5]
 cases hg : (eff f l).1.getLast? with
 | none =>
  have h0 : (eff f l).1 = [] := List.getLast?_eq_none_iff.1 hg
  rw [h0] at he
  simp only [ints, zeD, iN, List.map_nil] at he ⊢
  (refine Fun.of_body Tryz.func15 rfl (by simp) fun Γ hn => ?_); simp only [entry, ziC, ziN, maC, maN, oA, Tryz.ntmps15]
  repeat' (first
  | ((first | refine zag ?_ | refine zak ?_ | refine zah ?_ | refine zai ?_ | fail); simp)
  | ((first | refine zau ?_ | refine zar ?_ | fail); simp only [zao])
  | (refine CallP.fE (he) (by first | rfl | fail) (by first | (simp; done) | (simp; rfl) | fail) ?_; (try simp))
  | fail)
  (refine EndOK.val (.inr rfl) ?_; simp [zaI, zaf, zaw, Tryz.results15])
 | some n =>
  obtain ⟨G, h0⟩ := List.getLast?_eq_some_iff.1 hg
  have hnl := f3 n (by rw [h0]; simp)
  have hG : G.length ≤ 1000000 := by have := congrArg List.length h0; simp at this; omega
  obtain ⟨x, hx⟩ : ∃ x, l[n]? = some x := ⟨_, List.getElem?_eq_getElem hnl⟩
  rw [h0] at he
  simp only [hx, Option.map_some, Option.getD_some]
  have e1 : (List.map (fun n : Int => [U.int .i64 n]) (iN (G ++ [n])))[G.length]? = some [U.int .i64 n] := by simp [iN]
  have e2 : (List.map (fun n : Int => [U.int .i64 n]) (iN (G ++ [n]))).length = G.length + 1 := by simp [iN]
  simp only [ints, zeD] at he ⊢
  have e3 : ∀ h : G.length < (List.map (fun n : Int => [U.int .i64 n]) (iN (G ++ [n]))).length, (List.map (fun n : Int => [U.int .i64 n]) (iN (G ++ [n])))[G.length]'h = [U.int .i64 n] := fun h => (lGE.1 e1).2
  clear e1
  generalize List.map (fun n : Int => [U.int .i64 n]) (iN (G ++ [n])) = GR at *
  (refine Fun.of_body Tryz.func15 rfl (by simp) fun Γ hn => ?_); simp only [entry, ziC, ziN, maC, maN, oA, Tryz.ntmps15]
  repeat' (first
  | ((first | refine zag ?_ | refine zak ?_ | fail); simp [e3, e2, hx])
  | (refine ⟨by omega, ?_⟩)
  | ((first | refine zah ?_ | refine zai ?_ | refine zat ?_ | fail); simp [e3, e2, hx])
  | (refine zau ?_; simp only [zao])
  | (refine CallP.fE (he) (by first | rfl | fail) (by first | simp [e3, e2, hx] <;> rfl | fail) ?_; (try simp [e3, e2, hx]))
  | fail)
  (refine EndOK.val (.inr rfl) ?_; simp [zaI, zaf, zaw, Tryz.results15])
theorem zjy (first : List UInt8) (f : Int) (l : List Lw) (hl : l.length ≤ 1000000) : Fun Tryz.prog 18 [.u (.str first), .u (.int .i64 f), .u (zeD l)] (· = .u (.str (zoW first f l))) := by
 have he := zfr f l hl
 obtain ⟨f1, f2, f3, _, f5⟩ := zdL f l
 unfold zoW
 cases hg : (eff f l).1.getLast? with
 | none =>
  have h0 : (eff f l).1 = [] := List.getLast?_eq_none_iff.1 hg
  rw [h0] at he
  simp only [ints, zeD, iN, List.map_nil] at he ⊢
  (refine Fun.of_body Tryz.func18 rfl (by simp) fun Γ hn => ?_); simp only [entry, ziC, ziN, maC, maN, oA, Tryz.ntmps18]
  repeat' (first
  | ((first | refine zag ?_ | refine zak ?_ | refine zah ?_ | refine zai ?_ | fail); simp)
  | ((first | refine zau ?_ | refine zar ?_ | fail); simp only [zao])
  | (refine CallP.fE (he) (by first | rfl | fail) (by first | (simp; done) | (simp; rfl) | fail) ?_; (try simp))
  | fail)
  (refine EndOK.val (.inr rfl) ?_; simp [zaI, zaf, zaw, Tryz.results18])
 | some n =>
  obtain ⟨G, h0⟩ := List.getLast?_eq_some_iff.1 hg
  have hnl := f3 n (by rw [h0]; simp)
  have hG : G.length ≤ 1000000 := by have := congrArg List.length h0; simp at this; omega
  obtain ⟨x, hx⟩ : ∃ x, l[n]? = some x := ⟨_, List.getElem?_eq_getElem hnl⟩
  rw [h0] at he
  simp only [hx, Option.map_some, Option.getD_some]
  have e1 : (List.map (fun n : Int => [U.int .i64 n]) (iN (G ++ [n])))[G.length]? = some [U.int .i64 n] := by simp [iN]
  have e2 : (List.map (fun n : Int => [U.int .i64 n]) (iN (G ++ [n]))).length = G.length + 1 := by simp [iN]
  simp only [ints, zeD] at he ⊢
  have e3 : ∀ h : G.length < (List.map (fun n : Int => [U.int .i64 n]) (iN (G ++ [n]))).length, (List.map (fun n : Int => [U.int .i64 n]) (iN (G ++ [n])))[G.length]'h = [U.int .i64 n] := fun h => (lGE.1 e1).2
  clear e1
  generalize List.map (fun n : Int => [U.int .i64 n]) (iN (G ++ [n])) = GR at *
  (refine Fun.of_body Tryz.func18 rfl (by simp) fun Γ hn => ?_); simp only [entry, ziC, ziN, maC, maN, oA, Tryz.ntmps18]
  repeat' (first
  | ((first | refine zag ?_ | refine zak ?_ | fail); simp [e3, e2, hx])
  | (refine ⟨by omega, ?_⟩)
  | ((first | refine zah ?_ | refine zai ?_ | fail); simp [e3, e2, hx])
  | (refine zau ?_; simp only [zao])
  | (refine CallP.fE (he) (by first | rfl | fail) (by first | simp [e3, e2, hx] <;> rfl | fail) ?_; (try simp [e3, e2, hx]))
  | fail)
  (refine EndOK.val (.inr rfl) ?_; simp [zaI, zaf, zaw, Tryz.results18])
open Df in
theorem zhw (f : Int) (l : List Lw) (hl : l.length ≤ 1000000) : Fun Tryz.prog 17 [.u (.int .i64 f), .u (zeD l)] (· = .u (ints (zc1 f l))) := by
 have he := zfr f l hl
 obtain ⟨f1, f2, f3, _, f5⟩ := zdL f l
 unfold zc1 zpx
 generalize (eff f l).1 = G at *
 generalize iN (eff f l).2.1 = V at he
 have hg : G.length ≤ l.length := by omega
 obtain ⟨ML, hML⟩ : ∃ ML : List Int, ML = G.map fun n => ((l[n]?).map (·.mark)).getD 0 := ⟨_, rfl⟩
 rw [← hML]
 have hMLl : ML.length = G.length := by rw [hML, List.length_map]
 have hMLi : ∀ (i n : Nat) (x : Lw), G[i]? = some n → l[n]? = some x → ML[i]? = some x.mark := fun i n x h1 h2 => by rw [hML, List.getElem?_map, h1]; simp [h2]
 clear hML
 simp only [ints, zeD] at he ⊢
 (refine Fun.of_bodyW Tryz.func17 rfl (by simp) fun Γ hn => ?_); simp only [entry, ziC, ziN, maC, maN, oA, Tryz.ntmps17]
 repeat' (first
  | ((first | refine zag ?_ | refine zak ?_ | refine zah ?_ | refine zaA ?_ | fail); simp)
  | (refine CallP.fE (he) (by first | rfl | fail) (by first | (simp; done) | (simp; rfl) | fail) ?_; (try simp))
  | fail)
 refine zcg (α := { i : Nat // i ≤ G.length }) [1, 18, 19] (fun i => [(7, .vec 0 (i.1 + 1)), (20, .u (.int .i64 i.1))])
  (fun i => [(0, .vec 3 1 (zbn (f :: ML.take i.1)))]) 1 (fun i => G.length - i.1) ⟨0, by omega⟩ ?_ ?_
 ·exact (Wk.cut rfl (by simp [hn, St.lp]) (by simp [wkO, St.lp, zaa, getK, Ob.under, D.under, zad, zae, zbn, iN]) (by simp [wkU, St.lp, zal, zaa, getK, D.under, zbn, iN]) (by simp [wkE, St.lp, zal, zaa, getK, zbn, iN] <;> (try (intros; simp_all; done)) <;> (try (intros; omega)) <;> (try grind)))
 rintro ⟨i, hi⟩
 simp [St.lp, St.only, zal, zaa, getK]
 have hmin : min i ML.length = i := by omega
 rcases hx : G[i]? with _ | n
 ·have hge : G.length ≤ i := by simpa using hx
  obtain rfl : i = G.length := by omega
  have ht : ML.take G.length = ML := List.take_of_length_le (by omega)
  repeat' (first
  | ((first | refine zag ?_ | refine zak ?_ | refine zah ?_ | fail); simp [hx, iN])
  | (refine zau ?_; simp only [zao])
  | (refine za6 ?_; simp [zao])
  | fail)
  (refine EndW.frzN 1 ?_; simp [frzN, frz1, zaC, zaB, St.frz, St.frzS, frzS, fv, zaQ, za2, za3, frzObS, zay, zas, del, frz, za8, zdS, zaE, zeb, ht, hMLl])
  refine EndW.norm (EndW.here ?_)
  (refine EndOK.val (.inr rfl) ?_; simp [zaI, zaf, zaw, Tryz.results17, zaB, zaC, zcp, zcq, frz, za8, frzS, fv, zaQ, za2, za3, frzObS, zay, zas, zbS, zb6, zb7, zbc, zdS, zaE, zeb])
 ·have hlt : i < G.length := (lGE.1 hx).1
  have hnl := f3 n (List.mem_of_getElem? hx)
  obtain ⟨x, hy⟩ : ∃ x, l[n]? = some x := ⟨_, List.getElem?_eq_getElem hnl⟩
  have hlR : ∀ L : List Int, zii 1 (zbn L) := fun L => zdJ L
  have hm := hMLi i n x hx hy
  have hsn : ML.take (i + 1) = ML.take i ++ [x.mark] := by rw [List.take_succ, hm]; rfl
  have hs := zhm (f :: ML.take i) x.mark
  have hIN : ∀ h : i < (iN G).length, (iN G)[i]'h = (n : Int) := fun h => (lGE.1 (show (iN G)[i]? = some (n : Int) by simp [iN, hx])).2
  repeat' (first
  | ((first | refine zag ?_ | refine zak ?_ | fail); simp [hlt, zeb, hIN, hy, zaE, hmin, hlR, hs])
  | (refine ⟨by omega, ?_⟩)
  | ((first | refine zah ?_ | refine zat ?_ | fail); simp [hlt, zeb, hIN, hy, zaE, hmin, hlR, hs])
  | (refine zar ?_; simp only [zao])
  | fail)
  refine LoopW.next ⟨i + 1, by omega⟩ (by simp; omega) ?_
  exact (Wk.ren ((fun i => if i = 0 then 2 else i)) rfl (by first | (simp [hn]; done) | (intro i hi; rw [hn] at hi; constructor <;> (try simp) <;> (try (intro _)) <;> omega)) (by simp [ziB, St.lp, zal, zaa, getK, zac, zam, D.under, D.le, D.ren, zaq, zan, hsn] <;> (try (intros; simp_all; done)) <;> (try omega)) (by simp [wkR, St.lp, zaa, getK, zac, zam, obR, leU, zbR, zaT, Ob.under, D.under, D.le, D.ren, zaq, zan, hsn] <;> (try (intros; simp_all; done)) <;> (try omega)) (by simp [zaq, zan, hsn]))
end Go.Proofs.YtepiegcjnaohjaaGreatDoor
namespace Go.Proofs.YtepiegcjnaohjaaGreatDoor
open Go Go.VL
attribute [local simp] zc7 zb5 evPure opd uOf zaG St.put St.at getK binD binI binS binB nilD aggD zgO zhJ lookD lookR zcE Go.VL.nextD zcG zhP zhK zf0 zb4 mkV zbl zbf zbe zbd zc4 za9 zbt zbG mapEff zdk zfz Key.kk shiftI arith unD convD zdN loadD cellsAt fieldAddrD fieldD indexAddrD indexD sliceD cutD lenD minmaxD nilCheckD buildD fillD zb1 zdf ze2 setAll zcU zeF zcv zhx zcs St.add zaM zbP rowsOf zdH zcJ zam zac zaa zbi zcL zaK entry zbE zbI valD zb8 zcf zgD zdr zds zb2 zbK zaz zaX zbz delAll effD St.effS zc5 zbg zaZ zc6 zbh za1 zch za0 zaS zci zcV zbL zcb zbs zb9 zca zaR mkD zbk zbC zbQ zaz zcu D.ids Op.operands Call.operands zbu makeIfD makeFuncD typeAssertD zhI zdy zdz zhH zcF IntKind.bits zcO List.take_of_length_le List.range_succ
attribute [local irreducible] V G H HD HD2 zao Eff CallP CallV EndOK Fun Ret FinOK LoopI LoopW EndW
def zdl (lets : List Let) (names : List Var) (e : Exp) : Int × Int := if okJ lets names e = true then zdW (gF (gOf names)) (mF (mOf (gOf names) lets)) e else (0, 1)
theorem zd1 (lets : List Let) (names : List Var) (e : Exp) : Fun Tryz.prog 110 [.u (zeO lets), .u (zgy names), zes e] (· = .tup [.u (.int .i64 (zdl lets names e).1), .u (.int .i64 (zdl lets names e).2)]) := by
 have h1 := znV lets names e
 unfold zdl
 unfold znW at h1
 cases hK : okJ lets names e
 ·rw [hK] at h1
  simp only [zeO, zgy, zes, Bool.false_eq_true, if_false] at h1 ⊢
  (refine Fun.of_body Tryz.func110 rfl (by simp) fun Γ hn => ?_); simp only [entry, ziC, ziN, maC, maN, oA, Tryz.ntmps110]
  repeat' (first
  | ((first | refine zag ?_ | refine zak ?_ | refine zah ?_ | refine zai ?_ | fail); simp)
  | (refine zau ?_; simp only [zao])
  | (refine CallP.fE (h1) (by first | rfl | fail) (by first | (simp; done) | (simp; rfl) | fail) ?_; (try simp))
  | fail)
  (refine EndOK.val (.inr rfl) ?_; simp [zaI, zaf, zaw, Tryz.results110])
 ·rw [hK] at h1
  have hre : zbx 12 e = true := by
   simp only [okJ, Bool.and_eq_true] at hK
   exact (zlW hK.1).2.1
  have h2 := ziI (gOf names) (mOf (gOf names) lets) 12 e hre
  simp only [zeO, zgy, zes, if_true, jU] at h1 h2 ⊢
  generalize zdW (gF (gOf names)) (mF (mOf (gOf names) lets)) e = r at h2 ⊢
  (refine Fun.of_body Tryz.func110 rfl (by simp) fun Γ hn => ?_); simp only [entry, ziC, ziN, maC, maN, oA, Tryz.ntmps110]
  repeat' (first
  | ((first | refine zag ?_ | refine zak ?_ | refine zah ?_ | refine zai ?_ | fail); simp)
  | ((first | refine zau ?_ | refine zar ?_ | fail); simp only [zao])
  | (refine CallP.fE (h1) (by first | rfl | fail) (by first | (simp; done) | (simp; rfl) | fail) ?_; (try simp))
  | (refine CallP.fE (h2) (by first | rfl | fail) (by first | (simp; done) | (simp; rfl) | fail) ?_; (try simp))
  | fail)
  (refine EndOK.val (.inr rfl) ?_; simp [zaI, zaf, zaw, Tryz.results110])
def zbB (c : List UInt8) : List Var :=
 if c = [100, 117, 101] then [⟨[109, 101, 109, 98, 101, 114, 115], 1, 0⟩, ⟨[112, 101, 114, 105, 111, 100], 1, 0⟩, ⟨[108, 97, 115, 116], 1, 0⟩, ⟨[97, 103, 101], 2, 0⟩]
 else if c = [102, 105, 110, 101] then [⟨[108, 97, 116, 101], 2, 0⟩, ⟨[109, 101, 109, 98, 101, 114, 115], 1, 0⟩, ⟨[112, 101, 114, 105, 111, 100], 1, 0⟩, ⟨[108, 97, 115, 116], 1, 0⟩, ⟨[97, 103, 101], 2, 0⟩]
 else if c = [112, 97, 121] then [⟨[112, 111, 116], 3, 0⟩, ⟨[98, 105, 100], 3, 0⟩, ⟨[109, 101, 109, 98, 101, 114, 115], 1, 0⟩, ⟨[112, 101, 114, 105, 111, 100], 1, 0⟩]
 else if c = [99, 111, 118, 101, 114] then [⟨[112, 97, 105, 100], 3, 0⟩, ⟨[99, 108, 97, 105, 109, 115], 1, 0⟩, ⟨[97, 103, 101], 2, 0⟩, ⟨[109, 101, 109, 98, 101, 114, 115], 1, 0⟩]
 else if c = [104, 111, 108, 100] then [⟨[109, 101, 109, 98, 101, 114, 115], 1, 0⟩, ⟨[104, 111, 108, 100, 115], 3, 0⟩]
 else []
def clausesL : List (List UInt8) := [[100, 117, 101], [102, 105, 110, 101], [112, 97, 121], [99, 111, 118, 101, 114], [104, 111, 108, 100]]
def zsZ (b : By) (c : List UInt8) : Exp :=
 if c = [100, 117, 101] then b.due else if c = [102, 105, 110, 101] then b.fine else if c = [112, 97, 121] then b.pay else if c = [99, 111, 118, 101, 114] then b.cover else b.hold
def zgt (s : List UInt8) : Bool := clausesL.any fun c => (zbB c).any fun v => decide (v.name = s)
theorem zqV {α : Type} {p : α → Bool} {l : List α} {i : Nat} {x : α} (h : ∀ c ∈ l.take i, p c = false) (hx : l[i]? = some x) (hp : p x = true) : l.find? p = some x := by
 induction l generalizing i with
 | nil => simp at hx
 | cons a l ih =>
  cases i with
  | zero => simp at hx; subst hx; simp [hp]
  | succ i =>
   rw [List.find?_cons, h a (by simp)]
   exact ih (i := i) (fun c hc => h c (by simp [hc])) (by simpa using hx)
theorem zqU {α : Type} {p : α → Bool} {l : List α} (h : ∀ c ∈ l, p c = false) : l.find? p = none := by
 rw [List.find?_eq_none]
 intro x hx
 simp [h x hx]
def zmN (c : List UInt8) : Key × List U := (Key.s c, [zgy (zbB c)])
def zio : List (Key × List U) := clausesL.map zmN
theorem zob : Fun Tryz.prog 86 [] (· = .tup [.u (zek clausesL), .u (.map .s false zio)]) := by
 (refine Fun.of_bodyW Tryz.func86 rfl (by simp) fun Γ hn => ?_); simp only [entry, ziC, ziN, maC, maN, oA, Tryz.ntmps86]
 repeat' (first
  | ((first | refine zag ?_ | refine zak ?_ | refine zah ?_ | fail); simp [zbI, zbE])
  | (refine zrd rfl (by kernel_rfl) (by kernel_rfl) (by simp [hn]) fun C k hC hk => ?_; simp [zbI, zbE])
  | ((first | refine zro rfl ?_ | refine zrp ?_ | refine zrt rfl rfl ?_ | fail); simp [zbI, zbE])
  | (refine zrq (hC _ _ (by kernel_rfl) (by kernel_rfl)) (hk _ ?_); clear hC hk C k; simp only [zao]; simp [St.ins, zpt, zsn, zam, zaa])
  | (refine zau ?_; simp only [zao])
  | fail)
 (refine EndW.frzN 8 ?_; simp [frzN, frz1, zaC, zaB, St.frz, St.frzS, frzS, fv, zaQ, za2, za3, frzObS, zay, zas, del, frz, za8])
 refine EndW.here ?_
 (refine EndOK.val (.inr rfl) ?_; simp [zaI, zaf, zaw, Tryz.results86])
 simp [zek, clausesL, zio, zmN, zgy, zbB]
theorem zd8 (c : List UInt8) : zb4 zio (.s c) = if c ∈ clausesL then some [zgy (zbB c)] else none := by
 simp only [zio, clausesL, List.map_cons, List.map_nil, zmN, zb4, Key.s.injEq, List.mem_cons, List.not_mem_nil, or_false]
 repeat' split
 all_goals simp_all
def zrF (v : Var) : D := .u (.agg [.str v.name, .int .i64 v.unit, .int .i64 v.n])
theorem zmk (l : List (Var)) (f : FuncId) (caps : List U) (p : Var → Bool) (hf : ∀ n ∈ l, Fun Tryz.prog f (zrF n :: caps.map .u) (· = .u (.bool (p n)))) (hcl : zaj Tryz.prog f = true)
  (hca : ∀ o, zcf o (caps.map .u) = some (caps.map .u, [])) : Fun Tryz.prog 160 [.u (zgy l), .fnc (.func f) (caps.map .u)] (· = .u (.int .i64 (ze7 p l 0))) := by
 (refine Fun.of_body Tryz.func160 rfl (by simp) fun Γ hn => ?_); simp only [entry, ziC, ziN, maC, maN, oA, Tryz.ntmps160]
 simp only [zgy]
 refine zgE (x := 0) rfl fun hl => ?_
 simp at hl
 repeat' (first
  | ((first | refine zag ?_ | refine zak ?_ | refine zah ?_ | refine zaA ?_ | fail); simp)
  | fail)
 refine zbT (α := { i : Nat // i ≤ l.length ∧ ∀ c ∈ l.take i, p c = false }) [0, 1, 7] (fun i => [(8, .u (.int .i64 i.1))]) (fun i => l.length - i.1) ⟨0, by omega, by simp⟩ ?_ ?_
 ·exact (Wk.env rfl rfl rfl (by simp [wkE, St.lp, zal, zaa, getK] <;> (try (intros; simp_all; done)) <;> (try (intros; omega)) <;> (try grind)))
 rintro ⟨i, hi, hb⟩
 simp [St.lp, St.only, zal, zaa, getK]
 rcases hx : l[i]? with _ | n
 ·have hge : l.length ≤ i := by simpa using hx
  repeat' (first
  | ((first | refine zag ?_ | refine zak ?_ | fail); simp [hx])
  | (refine ⟨by omega, ?_⟩)
  | (refine zah ?_; simp [hx])
  | (refine zau ?_; simp only [zao])
  | (refine za6 ?_; simp [zao])
  | (intro hc <;> (try (exfalso; omega)))
  | fail)
  (refine EndOK.val (.inr rfl) ?_; simp [zaI, zaf, zaw, Tryz.results160])
  rw [List.take_of_length_le hge] at hb
  exact (zdn hb).symm
 ·have hlt : i < l.length := (lGE.1 hx).1
  have h1 := hf n (List.mem_of_getElem? hx)
  simp only [zrF] at h1
  cases hp : p n
  ·rw [hp] at h1
   repeat' (first
  | ((first | refine zag ?_ | refine zak ?_ | fail); simp [hx, hca])
  | (refine ⟨by omega, ?_⟩)
  | ((first | refine zah ?_ | refine zai ?_ | refine zat ?_ | fail); simp [hx, hca])
  | (refine zar ?_; simp only [zao])
  | (refine ⟨?_, by omega⟩)
  | (intro hc <;> (try (exfalso; omega)))
  | (refine CallP.fE (h1) (by first | rfl | fail) (by first | simp [hx, hca] <;> rfl | fail) ?_; (try simp [hcl, hx, hca]))
  | fail)
   refine LoopW.next ⟨i + 1, by omega, zaY hx hb hp⟩ (by simp; omega) ?_
   exact (Wk.env rfl rfl rfl (by simp [wkE, St.lp, zal, zaa, getK] <;> (try (intros; simp_all; done)) <;> (try (intros; omega)) <;> (try grind)))
  ·rw [hp] at h1
   repeat' (first
  | ((first | refine zag ?_ | refine zak ?_ | refine zah ?_ | refine zai ?_ | fail); simp [hx, hca])
  | ((first | refine zau ?_ | refine zar ?_ | fail); simp only [zao])
  | (refine ⟨?_, by omega⟩)
  | (intro hc <;> (try (exfalso; omega)))
  | (refine CallP.fE (h1) (by first | rfl | fail) (by first | simp [hx, hca] <;> rfl | fail) ?_; (try simp [hcl, hx, hca]))
  | fail)
   (refine EndOK.val (.inr rfl) ?_; simp [zaI, zaf, zaw, Tryz.results160])
   rw [zeQ hb hx hp]
   omega
theorem zi9 (l : List (Var)) (f : FuncId) (caps : List U) (p : Var → Bool) (hf : ∀ n ∈ l, Fun Tryz.prog f (zrF n :: caps.map .u) (· = .u (.bool (p n)))) (hcl : zaj Tryz.prog f = true)
  (hca : ∀ o, zcf o (caps.map .u) = some (caps.map .u, [])) (hcb : ∀ o, zbK o (caps.map .u) = some (caps, [])) : Fun Tryz.prog 108 [.u (zgy l), .fnc (.func f) (caps.map .u)] (· = .u (.bool (l.any p))) := by
 have h1 := zmk l f caps p hf hcl hca
 (refine Fun.of_body Tryz.func108 rfl (by simp) fun Γ hn => ?_); simp only [entry, ziC, ziN, maC, maN, oA, Tryz.ntmps108]
 simp only [zgy] at h1 ⊢
 repeat' (first
  | ((first | refine zag ?_ | refine zak ?_ | refine zah ?_ | fail); simp [hcb])
  | (refine zau ?_; simp only [zao])
  | (refine CallP.fE (h1) (by first | rfl | fail) (by first | simp [hcb] <;> rfl | fail) ?_; (try simp [hcl, hcb]))
  | fail)
 (refine EndOK.val (.inr rfl) ?_; simp [zaI, zaf, zaw, Tryz.results108])
 have h2 := zeq p l 0 (by omega)
 rw [Bool.eq_iff_iff]
 simpa using h2
theorem ziu (v : Var) (l : Let) : Fun Tryz.prog 109 (zrF v :: [U.row (zgs l) 0].map .u) (· = .u (.bool (decide (v.name = l.name)))) := by
 simp only [zrF, zgs, List.map_cons, List.map_nil]
 (refine Fun.of_body Tryz.func109 rfl (by simp) fun Γ hn => ?_); simp only [entry, ziC, ziN, maC, maN, oA, Tryz.ntmps109]
 repeat' (first
  | ((first | refine zag ?_ | refine zak ?_ | refine zah ?_ | fail); simp)
  | (refine zau ?_; simp only [zao])
  | fail)
 (refine EndOK.val (.inr rfl) ?_; simp [zaI, zaf, zaw, Tryz.results109])
def zft (b : By) (c : List UInt8) : Option (List UInt8 × Int) :=
 if (zdl b.lets (zbB c) (zsZ b c)).2 = 0 then (if (zdl b.lets (zbB c) (zsZ b c)).1 ≠ 3 then some (c, 14) else none) else some (c, (zdl b.lets (zbB c) (zsZ b c)).2)
def zd0 (b : By) : List (List UInt8) → List UInt8 × Int
 | [] => ([], 0)
 | c :: r => match zft b c with | some x => x | none => zd0 b r
def zeg (b : By) : List UInt8 × Int := if zcW b = false then ([], 1) else match b.lets.find? (fun l => zgt l.name) with | some l => (l.name, 5) | none => zd0 b clausesL
theorem zmD (b : By) : Fun Tryz.prog 53 [.u (.agg (zbr b))] (· = .tup [.u (.str (zeg b).1), .u (.int .i64 (zeg b).2)]) := by
 have h0 := zg5 b
 have h1 := zob
 have hrb : zcW b = true → b.lets.length ≤ 20 := fun h => by
  simp only [zcW, Bool.and_eq_true, decide_eq_true_eq] at h
  exact h.1.1.2
 unfold zeg
 generalize zcW b = rb at h0 hrb ⊢
 simp only [zbr] at h0
 cases rb
 ·(refine Fun.of_body Tryz.func53 rfl (by simp) fun Γ hn => ?_); simp only [entry, ziC, ziN, maC, maN, oA, Tryz.ntmps53]
  simp only [zbr]
  repeat' (first
  | ((first | refine zag ?_ | refine zak ?_ | refine zah ?_ | refine zai ?_ | fail); simp)
  | (refine zau ?_; simp only [zao])
  | (refine CallP.fE (h0) (by first | rfl | fail) (by first | (simp; done) | (simp; rfl) | fail) ?_; (try simp))
  | fail)
  (refine EndOK.val (.inr rfl) ?_; simp [zaI, zaf, zaw, Tryz.results53])
 have h20 := hrb rfl
 (refine Fun.of_body Tryz.func53 rfl (by simp) fun Γ hn => ?_); simp only [entry, ziC, ziN, maC, maN, oA, Tryz.ntmps53]
 simp only [zbr]
 repeat' (first
  | ((first | refine zag ?_ | refine zak ?_ | refine zah ?_ | refine zai ?_ | refine zaA ?_ | fail); simp)
  | (refine zar ?_; simp only [zao])
  | (refine CallP.fE (h0) (by first | rfl | fail) (by first | (simp; done) | (simp; rfl) | fail) ?_; (try simp))
  | (refine CallP.fE (h1) (by first | rfl | fail) (by first | (simp; done) | (simp; rfl) | fail) ?_; (try simp))
  | fail)
 refine zbT (α := { i : Nat // i ≤ b.lets.length ∧ ∀ l ∈ b.lets.take i, zgt l.name = false }) [1, 4, 5, 22, 23] (fun i => [(24, .u (.int .i64 i.1))]) (fun i => b.lets.length - i.1) ⟨0, by omega, by simp⟩ ?_ ?_
 ·exact (Wk.cut rfl (by simp [hn, St.lp]) (by simp [wkO, St.lp, zaa, getK, Ob.under, D.under, zad, zae]) (by simp [wkU, St.lp, zal, zaa, getK, D.under]) (by simp [wkE, St.lp, zal, zaa, getK] <;> (try (intros; simp_all; done)) <;> (try (intros; omega)) <;> (try grind)))
 rintro ⟨i, hi, hb⟩
 simp [St.lp, St.only, zal, zaa, getK]
 rcases hx : b.lets[i]? with _ | l
 ·have hge : b.lets.length ≤ i := by simpa using hx
  obtain rfl : i = b.lets.length := by omega
  rw [List.take_length] at hb
  have hfn := zqU (p := fun l : Let => zgt l.name) hb
  repeat' (first
  | ((first | refine zag ?_ | refine zak ?_ | refine zah ?_ | refine zaA ?_ | fail); simp [hx, zbI, zbE])
  | (refine za6 ?_; simp [zao])
  | fail)
  have step : ∀ {k : Nat} {c : List UInt8}, clausesL[k]? = some c → zd0 b clausesL = zd0 b (clausesL.drop k) → zd0 b clausesL = match zft b c with | some x => x | none => zd0 b (clausesL.drop (k + 1)) := fun {k c} h1 h2 => by
   obtain ⟨hk, rfl⟩ := lGE.1 h1
   rw [h2, List.drop_eq_getElem_cons hk, zd0]
  refine zbT (α := { k : Nat // k ≤ 5 ∧ zd0 b clausesL = zd0 b (clausesL.drop k) }) [1, 4, 5, 50, 51] (fun k => [(52, .u (.int .i64 k.1))]) (fun k => 5 - k.1) ⟨0, by omega, by simp⟩ ?_ ?_
  ·exact (Wk.cut rfl (by simp [hn, St.lp]) (by simp [wkO, St.lp, zaa, getK, Ob.under, D.under, zad, zae]) (by simp [wkU, St.lp, zal, zaa, getK, D.under]) (by simp [wkE, St.lp, zal, zaa, getK] <;> (try (intros; simp_all; done)) <;> (try (intros; omega)) <;> (try grind)))
  rintro ⟨k, hk, hd⟩
  simp [St.lp, St.only, zal, zaa, getK]
  have hk6 : k = 0 ∨ k = 1 ∨ k = 2 ∨ k = 3 ∨ k = 4 ∨ k = 5 := by omega
  rcases hk6 with rfl | rfl | rfl | rfl | rfl | rfl
  ·have st := step (k := 0) (c := [100, 117, 101]) rfl hd
   have e1 := zd1 b.lets (zbB [100, 117, 101]) b.due
   have hlk := zd8 [100, 117, 101]
   rw [if_pos (by simp [clausesL])] at hlk
   have cp : zft b [100, 117, 101] = if (zdl b.lets (zbB [100, 117, 101]) b.due).2 = 0 then (if (zdl b.lets (zbB [100, 117, 101]) b.due).1 ≠ 3 then some ([100, 117, 101], 14) else none) else some ([100, 117, 101], (zdl b.lets (zbB [100, 117, 101]) b.due).2) := rfl
   generalize zdl b.lets (zbB [100, 117, 101]) b.due = r at e1 cp
   obtain ⟨u, er⟩ := r
   simp only [zes, zeO] at e1
   simp only at cp
   have hcl : clausesL[0]? = some [100, 117, 101] := rfl
   repeat' (first
  | ((first | refine zag ?_ | refine zbW ?_ | refine zak ?_ | fail); simp [hlk, hcl, zek])
  | (refine ⟨by omega, ?_⟩)
  | ((first | refine zah ?_ | refine zai ?_ | fail); simp [hlk, hcl, zek])
  | (refine zcH ?_)
  | (refine hk _ ?_; clear hk k; simp only [zao])
  | (refine zbV rfl (by kernel_rfl) (by kernel_rfl) fun k hk => ?_; simp [hlk, hcl, zek])
  | (refine zat ?_; simp [hlk, hcl, zek])
  | ((first | refine zau ?_ | refine zar ?_ | fail); simp only [zao])
  | (refine ⟨?_, by omega⟩)
  | (refine ⟨fun hc => ?_, fun hc => ?_⟩ <;> (try (exfalso; omega)))
  | (intro hc <;> (try (exfalso; omega)))
  | (refine CallV.fun_ (e1) (by first | rfl | fail) (by first | simp [hlk, hcl, zek] <;> rfl | fail) ?_ <;> (try simp [hlk, hcl, zek]))
  | fail)
   all_goals first
    | (have g1 : er = 0 := (by first | assumption | fail); have g2 : u = 3 := (by first | assumption | fail); rw [cp, if_pos g1, if_neg (by simp [g2])] at st; refine LoopW.next ⟨0 + 1, by omega, st⟩ (by simp) ?_; exact (Wk.cut rfl (by simp [hn, St.lp]) (by simp [wkO, St.lp, zaa, getK, Ob.under, D.under, zad, zae]) (by simp [wkU, St.lp, zal, zaa, getK, D.under]) (by simp [wkE, St.lp, zal, zaa, getK] <;> (try (intros; simp_all; done)) <;> (try (intros; omega)) <;> (try grind))))
    | (have g1 : er = 0 := (by first | assumption | fail); have g2 : ¬ u = 3 := (by first | assumption | fail); rw [cp, if_pos g1, if_pos g2] at st; (refine EndOK.val (.inr rfl) ?_; simp [zaI, zaf, zaw, Tryz.results53]); rw [hfn, st]; simp; done)
    | (have g1 : ¬ er = 0 := (by first | assumption | fail); rw [cp, if_neg g1] at st; (refine EndOK.val (.inr rfl) ?_; simp [zaI, zaf, zaw, Tryz.results53]); rw [hfn, st]; simp; done)
  ·have st := step (k := 1) (c := [102, 105, 110, 101]) rfl hd
   have e1 := zd1 b.lets (zbB [102, 105, 110, 101]) b.fine
   have hlk := zd8 [102, 105, 110, 101]
   rw [if_pos (by simp [clausesL])] at hlk
   have cp : zft b [102, 105, 110, 101] = if (zdl b.lets (zbB [102, 105, 110, 101]) b.fine).2 = 0 then (if (zdl b.lets (zbB [102, 105, 110, 101]) b.fine).1 ≠ 3 then some ([102, 105, 110, 101], 14) else none) else some ([102, 105, 110, 101], (zdl b.lets (zbB [102, 105, 110, 101]) b.fine).2) := rfl
   generalize zdl b.lets (zbB [102, 105, 110, 101]) b.fine = r at e1 cp
   obtain ⟨u, er⟩ := r
   simp only [zes, zeO] at e1
   simp only at cp
   have hcl : clausesL[1]? = some [102, 105, 110, 101] := rfl
   repeat' (first
  | ((first | refine zag ?_ | refine zbW ?_ | refine zak ?_ | fail); simp [hlk, hcl, zek])
  | (refine ⟨by omega, ?_⟩)
  | ((first | refine zah ?_ | refine zai ?_ | fail); simp [hlk, hcl, zek])
  | (refine zcH ?_)
  | (refine hk _ ?_; clear hk k; simp only [zao])
  | (refine zbV rfl (by kernel_rfl) (by kernel_rfl) fun k hk => ?_; simp [hlk, hcl, zek])
  | (refine zat ?_; simp [hlk, hcl, zek])
  | ((first | refine zau ?_ | refine zar ?_ | fail); simp only [zao])
  | (refine ⟨?_, by omega⟩)
  | (refine ⟨fun hc => ?_, fun hc => ?_⟩ <;> (try (exfalso; omega)))
  | (intro hc <;> (try (exfalso; omega)))
  | (refine CallV.fun_ (e1) (by first | rfl | fail) (by first | simp [hlk, hcl, zek] <;> rfl | fail) ?_ <;> (try simp [hlk, hcl, zek]))
  | fail)
   all_goals first
    | (have g1 : er = 0 := (by first | assumption | fail); have g2 : u = 3 := (by first | assumption | fail); rw [cp, if_pos g1, if_neg (by simp [g2])] at st; refine LoopW.next ⟨1 + 1, by omega, st⟩ (by simp) ?_; exact (Wk.cut rfl (by simp [hn, St.lp]) (by simp [wkO, St.lp, zaa, getK, Ob.under, D.under, zad, zae]) (by simp [wkU, St.lp, zal, zaa, getK, D.under]) (by simp [wkE, St.lp, zal, zaa, getK] <;> (try (intros; simp_all; done)) <;> (try (intros; omega)) <;> (try grind))))
    | (have g1 : er = 0 := (by first | assumption | fail); have g2 : ¬ u = 3 := (by first | assumption | fail); rw [cp, if_pos g1, if_pos g2] at st; (refine EndOK.val (.inr rfl) ?_; simp [zaI, zaf, zaw, Tryz.results53]); rw [hfn, st]; simp; done)
    | (have g1 : ¬ er = 0 := (by first | assumption | fail); rw [cp, if_neg g1] at st; (refine EndOK.val (.inr rfl) ?_; simp [zaI, zaf, zaw, Tryz.results53]); rw [hfn, st]; simp; done)
  ·have st := step (k := 2) (c := [112, 97, 121]) rfl hd
   have e1 := zd1 b.lets (zbB [112, 97, 121]) b.pay
   have hlk := zd8 [112, 97, 121]
   rw [if_pos (by simp [clausesL])] at hlk
   have cp : zft b [112, 97, 121] = if (zdl b.lets (zbB [112, 97, 121]) b.pay).2 = 0 then (if (zdl b.lets (zbB [112, 97, 121]) b.pay).1 ≠ 3 then some ([112, 97, 121], 14) else none) else some ([112, 97, 121], (zdl b.lets (zbB [112, 97, 121]) b.pay).2) := rfl
   generalize zdl b.lets (zbB [112, 97, 121]) b.pay = r at e1 cp
   obtain ⟨u, er⟩ := r
   simp only [zes, zeO] at e1
   simp only at cp
   have hcl : clausesL[2]? = some [112, 97, 121] := rfl
   repeat' (first
  | ((first | refine zag ?_ | refine zbW ?_ | refine zak ?_ | fail); simp [hlk, hcl, zek])
  | (refine ⟨by omega, ?_⟩)
  | ((first | refine zah ?_ | refine zai ?_ | fail); simp [hlk, hcl, zek])
  | (refine zcH ?_)
  | (refine hk _ ?_; clear hk k; simp only [zao])
  | (refine zbV rfl (by kernel_rfl) (by kernel_rfl) fun k hk => ?_; simp [hlk, hcl, zek])
  | (refine zat ?_; simp [hlk, hcl, zek])
  | ((first | refine zau ?_ | refine zar ?_ | fail); simp only [zao])
  | (refine ⟨?_, by omega⟩)
  | (refine ⟨fun hc => ?_, fun hc => ?_⟩ <;> (try (exfalso; omega)))
  | (intro hc <;> (try (exfalso; omega)))
  | (refine CallV.fun_ (e1) (by first | rfl | fail) (by first | simp [hlk, hcl, zek] <;> rfl | fail) ?_ <;> (try simp [hlk, hcl, zek]))
  | fail)
   all_goals first
    | (have g1 : er = 0 := (by first | assumption | fail); have g2 : u = 3 := (by first | assumption | fail); rw [cp, if_pos g1, if_neg (by simp [g2])] at st; refine LoopW.next ⟨2 + 1, by omega, st⟩ (by simp) ?_; exact (Wk.cut rfl (by simp [hn, St.lp]) (by simp [wkO, St.lp, zaa, getK, Ob.under, D.under, zad, zae]) (by simp [wkU, St.lp, zal, zaa, getK, D.under]) (by simp [wkE, St.lp, zal, zaa, getK] <;> (try (intros; simp_all; done)) <;> (try (intros; omega)) <;> (try grind))))
    | (have g1 : er = 0 := (by first | assumption | fail); have g2 : ¬ u = 3 := (by first | assumption | fail); rw [cp, if_pos g1, if_pos g2] at st; (refine EndOK.val (.inr rfl) ?_; simp [zaI, zaf, zaw, Tryz.results53]); rw [hfn, st]; simp; done)
    | (have g1 : ¬ er = 0 := (by first | assumption | fail); rw [cp, if_neg g1] at st; (refine EndOK.val (.inr rfl) ?_; simp [zaI, zaf, zaw, Tryz.results53]); rw [hfn, st]; simp; done)
  ·have st := step (k := 3) (c := [99, 111, 118, 101, 114]) rfl hd
   have e1 := zd1 b.lets (zbB [99, 111, 118, 101, 114]) b.cover
   have hlk := zd8 [99, 111, 118, 101, 114]
   rw [if_pos (by simp [clausesL])] at hlk
   have cp : zft b [99, 111, 118, 101, 114] = if (zdl b.lets (zbB [99, 111, 118, 101, 114]) b.cover).2 = 0 then (if (zdl b.lets (zbB [99, 111, 118, 101, 114]) b.cover).1 ≠ 3 then some ([99, 111, 118, 101, 114], 14) else none) else some ([99, 111, 118, 101, 114], (zdl b.lets (zbB [99, 111, 118, 101, 114]) b.cover).2) := rfl
   generalize zdl b.lets (zbB [99, 111, 118, 101, 114]) b.cover = r at e1 cp
   obtain ⟨u, er⟩ := r
   simp only [zes, zeO] at e1
   simp only at cp
   have hcl : clausesL[3]? = some [99, 111, 118, 101, 114] := rfl
   repeat' (first
  | ((first | refine zag ?_ | refine zbW ?_ | refine zak ?_ | fail); simp [hlk, hcl, zek])
  | (refine ⟨by omega, ?_⟩)
  | ((first | refine zah ?_ | refine zai ?_ | fail); simp [hlk, hcl, zek])
  | (refine zcH ?_)
  | (refine hk _ ?_; clear hk k; simp only [zao])
  | (refine zbV rfl (by kernel_rfl) (by kernel_rfl) fun k hk => ?_; simp [hlk, hcl, zek])
  | (refine zat ?_; simp [hlk, hcl, zek])
  | ((first | refine zau ?_ | refine zar ?_ | fail); simp only [zao])
  | (refine ⟨?_, by omega⟩)
  | (refine ⟨fun hc => ?_, fun hc => ?_⟩ <;> (try (exfalso; omega)))
  | (intro hc <;> (try (exfalso; omega)))
  | (refine CallV.fun_ (e1) (by first | rfl | fail) (by first | simp [hlk, hcl, zek] <;> rfl | fail) ?_ <;> (try simp [hlk, hcl, zek]))
  | fail)
   all_goals first
    | (have g1 : er = 0 := (by first | assumption | fail); have g2 : u = 3 := (by first | assumption | fail); rw [cp, if_pos g1, if_neg (by simp [g2])] at st; refine LoopW.next ⟨3 + 1, by omega, st⟩ (by simp) ?_; exact (Wk.cut rfl (by simp [hn, St.lp]) (by simp [wkO, St.lp, zaa, getK, Ob.under, D.under, zad, zae]) (by simp [wkU, St.lp, zal, zaa, getK, D.under]) (by simp [wkE, St.lp, zal, zaa, getK] <;> (try (intros; simp_all; done)) <;> (try (intros; omega)) <;> (try grind))))
    | (have g1 : er = 0 := (by first | assumption | fail); have g2 : ¬ u = 3 := (by first | assumption | fail); rw [cp, if_pos g1, if_pos g2] at st; (refine EndOK.val (.inr rfl) ?_; simp [zaI, zaf, zaw, Tryz.results53]); rw [hfn, st]; simp; done)
    | (have g1 : ¬ er = 0 := (by first | assumption | fail); rw [cp, if_neg g1] at st; (refine EndOK.val (.inr rfl) ?_; simp [zaI, zaf, zaw, Tryz.results53]); rw [hfn, st]; simp; done)
  ·have st := step (k := 4) (c := [104, 111, 108, 100]) rfl hd
   have e1 := zd1 b.lets (zbB [104, 111, 108, 100]) b.hold
   have hlk := zd8 [104, 111, 108, 100]
   rw [if_pos (by simp [clausesL])] at hlk
   have cp : zft b [104, 111, 108, 100] = if (zdl b.lets (zbB [104, 111, 108, 100]) b.hold).2 = 0 then (if (zdl b.lets (zbB [104, 111, 108, 100]) b.hold).1 ≠ 3 then some ([104, 111, 108, 100], 14) else none) else some ([104, 111, 108, 100], (zdl b.lets (zbB [104, 111, 108, 100]) b.hold).2) := rfl
   generalize zdl b.lets (zbB [104, 111, 108, 100]) b.hold = r at e1 cp
   obtain ⟨u, er⟩ := r
   simp only [zes, zeO] at e1
   simp only at cp
   have hcl : clausesL[4]? = some [104, 111, 108, 100] := rfl
   repeat' (first
  | ((first | refine zag ?_ | refine zbW ?_ | refine zak ?_ | fail); simp [hlk, hcl, zek])
  | (refine ⟨by omega, ?_⟩)
  | ((first | refine zah ?_ | refine zai ?_ | fail); simp [hlk, hcl, zek])
  | (refine zcH ?_)
  | (refine hk _ ?_; clear hk k; simp only [zao])
  | (refine zbV rfl (by kernel_rfl) (by kernel_rfl) fun k hk => ?_; simp [hlk, hcl, zek])
  | (refine zat ?_; simp [hlk, hcl, zek])
  | ((first | refine zau ?_ | refine zar ?_ | fail); simp only [zao])
  | (refine ⟨?_, by omega⟩)
  | (refine ⟨fun hc => ?_, fun hc => ?_⟩ <;> (try (exfalso; omega)))
  | (intro hc <;> (try (exfalso; omega)))
  | (refine CallV.fun_ (e1) (by first | rfl | fail) (by first | simp [hlk, hcl, zek] <;> rfl | fail) ?_ <;> (try simp [hlk, hcl, zek]))
  | fail)
   all_goals first
    | (have g1 : er = 0 := (by first | assumption | fail); have g2 : u = 3 := (by first | assumption | fail); rw [cp, if_pos g1, if_neg (by simp [g2])] at st; refine LoopW.next ⟨4 + 1, by omega, st⟩ (by simp) ?_; exact (Wk.cut rfl (by simp [hn, St.lp]) (by simp [wkO, St.lp, zaa, getK, Ob.under, D.under, zad, zae]) (by simp [wkU, St.lp, zal, zaa, getK, D.under]) (by simp [wkE, St.lp, zal, zaa, getK] <;> (try (intros; simp_all; done)) <;> (try (intros; omega)) <;> (try grind))))
    | (have g1 : er = 0 := (by first | assumption | fail); have g2 : ¬ u = 3 := (by first | assumption | fail); rw [cp, if_pos g1, if_pos g2] at st; (refine EndOK.val (.inr rfl) ?_; simp [zaI, zaf, zaw, Tryz.results53]); rw [hfn, st]; simp; done)
    | (have g1 : ¬ er = 0 := (by first | assumption | fail); rw [cp, if_neg g1] at st; (refine EndOK.val (.inr rfl) ?_; simp [zaI, zaf, zaw, Tryz.results53]); rw [hfn, st]; simp; done)
  ·have hend : zd0 b clausesL = ([], 0) := by rw [hd]; rfl
   repeat' (first
  | ((first | refine zag ?_ | refine zak ?_ | refine zah ?_ | fail); simp)
  | (refine zau ?_; simp only [zao])
  | (refine za6 ?_; simp [zao])
  | fail)
   (refine EndOK.val (.inr rfl) ?_; simp [zaI, zaf, zaw, Tryz.results53])
   rw [hfn, hend]
   simp
 ·have hlt : i < b.lets.length := (lGE.1 hx).1
  have hfa := fun h => zqV (p := fun l : Let => zgt l.name) hb hx h
  repeat' (first
  | ((first | refine zag ?_ | refine zak ?_ | refine zah ?_ | refine zaA ?_ | fail); simp [hx])
  | (refine zar ?_; simp only [zao])
  | (refine ⟨?_, by omega⟩)
  | (intro hc <;> (try (exfalso; omega)))
  | fail)
  refine zcg (α := { q : List (Key × List U) × Option (Key × List U) // (∀ p ∈ q.1, ∃ c ∈ clausesL, p = zmN c) ∧ ∀ c ∈ clausesL, zmN c ∈ q.1 ∨ ((zbB c).any fun v => decide (v.name = l.name)) = false }) [1, 4, 5, 22, 23, 24, 7, 29] (fun q => [])
   (fun q => [(2, .it .s false zio q.1.1 q.1.2), (1, .box [.u (.str l.name), .u (.int .i64 l.body.op), .u (.int .i64 l.body.n), .u (.int .i64 l.body.unit), .u (.str l.body.s), .u (.sl (l.body.args.map Exp.row))]), (0, .box ((zbr b).map .u))]) 3
   (fun q => q.1.1.length) ⟨(zio, none), ?_, ?_⟩ ?_ ?_
  ·intro p hp
   obtain ⟨c, hc, rfl⟩ := List.mem_map.1 hp
   exact ⟨c, hc, rfl⟩
  ·intro c hc
   exact .inl (List.mem_map.2 ⟨c, hc, rfl⟩)
  ·exact (Wk.cut rfl (by simp [hn, St.lp]) (by simp [wkO, St.lp, zaa, getK, Ob.under, D.under, zad, zae, zbr]) (by simp [wkU, St.lp, zal, zaa, getK, D.under, zbr]) (by simp [wkE, St.lp, zal, zaa, getK, zbr] <;> (try (intros; simp_all; done)) <;> (try (intros; omega)) <;> (try grind)))
  rintro ⟨⟨left, cur⟩, hq1, hq2⟩
  simp only at hq1 hq2
  simp [St.lp, St.only, zal, zaa, getK]
  simp only [zbr, List.map_cons, List.map_nil]
  repeat' (first
  | ((first | refine zag ?_ | refine zak ?_ | fail); simp [hx])
  | (refine ⟨by omega, ?_⟩)
  | ((first | refine zah ?_ | refine zaA ?_ | refine zat ?_ | fail); simp [hx])
  | (refine zar ?_; simp only [zao])
  | (refine za6 ?_; simp [zao])
  | (refine ⟨fun hc => ?_, fun hc => ?_⟩ <;> (try (exfalso; omega)))
  | (intro hc <;> (try (exfalso; omega)))
  | fail)
  ·have hno : zgt l.name = false := by
    unfold zgt
    rw [List.any_eq_false]
    intro c hc1
    rcases hq2 c hc1 with h | h
    ·(rw [hc] at h; cases h)
    ·simp only [h]; simp
   refine LoopW.next ⟨i + 1, by omega, zaY hx hb hno⟩ (by simp; omega) ?_
   exact (Wk.cut rfl (by simp [hn, St.lp]) (by simp [wkO, St.lp, zaa, getK, Ob.under, D.under, zad, zae]) (by simp [wkU, St.lp, zal, zaa, getK, D.under]) (by simp [wkE, St.lp, zal, zaa, getK] <;> (try (intros; simp_all; done)) <;> (try (intros; omega)) <;> (try grind)))
  ·rename_i l1 pk pv l2
   have hl : left = l1 ++ (pk, pv) :: l2 := hc
   obtain ⟨c, hc1, hpc⟩ := hq1 (pk, pv) (by rw [hl]; simp)
   simp only [zmN, Prod.mk.injEq] at hpc
   obtain ⟨rfl, rfl⟩ := hpc
   have hvn := zi9 (zbB c) 109 [U.row (zgs l) 0] _ (fun v _ => ziu v l) (by simp) (fun _ => rfl) (fun _ => rfl)
   simp only [zgs, List.map_cons, List.map_nil] at hvn
   cases hany : ((zbB c).any fun v => decide (v.name = l.name))
   all_goals
    rw [hany] at hvn
    try simp only [zmN]
    try simp
    repeat' (first
  | ((first | refine zag ?_ | refine zak ?_ | refine zah ?_ | refine zai ?_ | fail); simp [hx])
  | ((first | refine zau ?_ | refine zar ?_ | fail); simp only [zao])
  | (refine CallP.fE (hvn) (by first | rfl | fail) (by first | simp [hx] <;> rfl | fail) ?_; (try simp [hx]))
  | fail)
   ·refine LoopW.next ⟨(l1 ++ l2, some (zmN c)), ?_, ?_⟩ ?_ ?_
    ·intro p hp
     exact hq1 p (by rw [hl]; simp at hp ⊢; rcases hp with h | h <;> simp [h])
    ·intro c' hc'
     rcases hq2 c' hc' with h | h
     ·rw [hl] at h
      simp only [List.mem_append, List.mem_cons] at h
      rcases h with h | h | h
      ·exact .inl (List.mem_append.2 (.inl h))
      ·have : c' = c := by simp [zmN] at h; exact h.1
       subst this
       exact .inr hany
      ·exact .inl (List.mem_append.2 (.inr h))
     ·exact .inr h
    ·first | (simp [hl]; done) | (simp [hl]; omega)
    ·exact (Wk.cut rfl (by simp [hn, St.lp]) (by simp [wkO, St.lp, zaa, getK, Ob.under, D.under, zad, zae, zmN]) (by simp [wkU, St.lp, zal, zaa, getK, D.under, zmN]) (by simp [wkE, St.lp, zal, zaa, getK, zmN] <;> (try (intros; simp_all; done)) <;> (try (intros; omega)) <;> (try grind)))
   ·(refine EndOK.val (.inr rfl) ?_; simp [zaI, zaf, zaw, Tryz.results53])
    have hyes : zgt l.name = true := by
      unfold zgt
      rw [List.any_eq_true]
      exact ⟨c, hc1, hany⟩
    rw [hfa hyes]
    simp
theorem zos (c : UInt8) : Fun Tryz.prog 198 [.u (.int .u8 c.toNat)] (· = .u (.bool (zcc c))) := by
 unfold zcc
 (refine Fun.of_body Tryz.func198 rfl (by simp) fun Γ hn => ?_); simp only [entry, ziC, ziN, maC, maN, oA, Tryz.ntmps198]
 repeat' (first
  | ((first | refine zag ?_ | refine zak ?_ | refine zah ?_ | fail); simp)
  | (refine zau ?_; simp only [zao])
  | (refine ⟨fun hc => ?_, fun hc => ?_⟩ <;> (try (exfalso; omega)))
  | fail)
 all_goals
  (refine EndOK.val (.inr rfl) ?_; simp [zaI, zaf, zaw, Tryz.results198])
 all_goals first | omega | (rw [Bool.eq_iff_iff]; simp; omega) | (simp; omega)
theorem zns (c : UInt8) : Fun Tryz.prog 244 [.u (.int .u8 c.toNat)] (· = .u (.bool (zde c))) := by
 unfold zde
 (refine Fun.of_body Tryz.func244 rfl (by simp) fun Γ hn => ?_); simp only [entry, ziC, ziN, maC, maN, oA, Tryz.ntmps244]
 repeat' (first
  | ((first | refine zag ?_ | refine zak ?_ | refine zah ?_ | fail); simp)
  | (refine zau ?_; simp only [zao])
  | (refine ⟨fun hc => ?_, fun hc => ?_⟩ <;> (try (exfalso; omega)))
  | (refine CallP.fE (zd9 c) (by first | rfl | fail) (by first | (simp; done) | (simp; rfl) | fail) ?_; (try simp))
  | (refine CallP.fE (zeX c) (by first | rfl | fail) (by first | (simp; done) | (simp; rfl) | fail) ?_; (try simp))
  | fail)
 all_goals
  (refine EndOK.val (.inr rfl) ?_; simp [zaI, zaf, zaw, Tryz.results244])
 all_goals simp_all
theorem zdO (p : UInt8 → Bool) (l : List UInt8) : zcI p l ≤ l.length := by
 unfold zcI
 exact (List.takeWhile_sublist p).length_le
theorem zm1 {p : UInt8 → Bool} {l : List UInt8} (h : zcI p l = l.length) : ∀ c ∈ l, p c = true := by
 have : l.takeWhile p = l := (List.takeWhile_sublist p).eq_of_length h
 intro c hc
 rw [← this] at hc
 exact List.all_eq_true.1 (List.all_takeWhile (l := l) (p := p)) c hc
theorem zl7 (s : List UInt8) (hl : s.length ≤ 1000000) : Fun Tryz.prog 245 [.u (.str s)] (· = .tup [.u (.int .i64 ((zf7 s).getD 0)), .u (.bool (zf7 s).isSome)]) := by
 have hsp := zfE s hl 222 zbv (fun c _ => zeX c) (by simp)
 unfold zf7
 cases s with
 | nil =>
  (refine Fun.of_body Tryz.func245 rfl (by simp) fun Γ hn => ?_); simp only [entry, ziC, ziN, maC, maN, oA, Tryz.ntmps245]
  repeat' (first
  | ((first | refine zag ?_ | refine zak ?_ | refine zah ?_ | refine zai ?_ | fail); simp)
  | (refine zau ?_; simp only [zao])
  | fail)
  all_goals
   (refine EndOK.val (.inr rfl) ?_; simp [zaI, zaf, zaw, Tryz.results245])
 | cons c s =>
  by_cases h1 : zcI zbv (c :: s) = (c :: s).length
  case neg =>
   rw [if_pos (.inr (.inl h1))]
   have h1' : ¬ (zcI zbv (c :: s) : Int) = s.length + 1 := by simp at h1; omega
   (refine Fun.of_body Tryz.func245 rfl (by simp) fun Γ hn => ?_); simp only [entry, ziC, ziN, maC, maN, oA, Tryz.ntmps245]
   repeat' (first
  | ((first | refine zag ?_ | refine zak ?_ | refine zah ?_ | refine zai ?_ | fail); simp [h1'])
  | (refine zau ?_; simp only [zao])
  | (refine CallP.fE (hsp) (by first | rfl | fail) (by first | simp [h1'] <;> rfl | fail) ?_; (try simp [h1']))
  | fail)
   all_goals
    (refine EndOK.val (.inr rfl) ?_; simp [zaI, zaf, zaw, Tryz.results245])
  have h1' : (zcI zbv (c :: s) : Int) = s.length + 1 := by simp at h1; omega
  by_cases h2 : c.toNat = 48 ∧ s ≠ []
  ·rw [if_pos (.inr (.inr (.inl ⟨by have := h2.1; simp; exact UInt8.toNat_inj.1 this, by simp; intro _; exact h2.2⟩)))]
   have h2b := h2.1
   have h2a := h2.2
   (refine Fun.of_body Tryz.func245 rfl (by simp) fun Γ hn => ?_); simp only [entry, ziC, ziN, maC, maN, oA, Tryz.ntmps245]
   repeat' (first
  | ((first | refine zag ?_ | refine zak ?_ | refine zah ?_ | refine zai ?_ | fail); simp [h1', h2a, h2b])
  | (refine zau ?_; simp only [zao])
  | (refine CallP.fE (hsp) (by first | rfl | fail) (by first | simp [h1', h2a, h2b] <;> rfl | fail) ?_; (try simp [h1', h2a, h2b]))
  | fail)
   all_goals
    (refine EndOK.val (.inr rfl) ?_; simp [zaI, zaf, zaw, Tryz.results245])
  have h2' : c.toNat = 48 → s = [] := fun h => by
   by_cases hs : s = []
   ·exact hs
   ·exact absurd ⟨h, hs⟩ h2
  by_cases h3 : 13 < (c :: s).length
  ·rw [if_pos (.inr (.inr (.inr h3)))]
   have h3' : 13 < (s.length : Int) + 1 := by simp at h3; omega
   have hne : s ≠ [] := fun e => by rw [e] at h3; simp at h3
   have h2'' : ¬ c.toNat = 48 := fun h => hne (h2' h)
   (refine Fun.of_body Tryz.func245 rfl (by simp) fun Γ hn => ?_); simp only [entry, ziC, ziN, maC, maN, oA, Tryz.ntmps245]
   repeat' (first
  | ((first | refine zag ?_ | refine zak ?_ | fail); simp [h1', h2'', h3'])
  | (refine ⟨by omega, ?_⟩)
  | ((first | refine zah ?_ | refine zai ?_ | fail); simp [h1', h2'', h3'])
  | (refine zau ?_; simp only [zao])
  | (intro hc <;> (try (exfalso; omega)))
  | (refine CallP.fE (hsp) (by first | rfl | fail) (by first | simp [h1', h2'', h3'] <;> rfl | fail) ?_; (try simp [h1', h2'', h3']))
  | fail)
   all_goals
    (refine EndOK.val (.inr rfl) ?_; simp [zaI, zaf, zaw, Tryz.results245])
  have hall := zm1 h1
  rw [if_neg (by
   simp only [not_or]
   refine ⟨by simp, fun h => h h1, fun h => ?_, h3⟩
   have hc48 : c = 48 := by have := h.1; simpa using this
   have := h2' (by rw [hc48]; rfl)
   rw [this, hc48] at h
   exact h.2 rfl)]
  have h3' : ¬ 13 < (s.length : Int) + 1 := by simp at h3; omega
  have hval : ∀ k, k ≤ (c :: s).length → 0 ≤ zbq ((c :: s).take k) ∧ zbq ((c :: s).take k) < 10 ^ 13 := fun k hk => by
   have h4 := zfS k ((c :: s).take k) (by simp; simp at hk; omega) (fun x hx => hall x (List.mem_of_mem_take hx))
   have : (10 : Int) ^ k ≤ 10 ^ 13 := by
    have := Nat.pow_le_pow_right (n := 10) (by omega) (show k ≤ 13 by simp at h3 hk; omega)
    exact_mod_cast this
   omega
  have hloop : ∀ (hw : c.toNat = 48 → s = []), Fun Tryz.prog 245 [.u (.str (c :: s))] (· = .tup [.u (.int .i64 ((if 1099511627776 < zbq (c :: s) then none else some (zbq (c :: s)) : Option Int).getD 0)), .u (.bool (if 1099511627776 < zbq (c :: s) then none else some (zbq (c :: s)) : Option Int).isSome)]) := fun hw => by
   by_cases h48 : c.toNat = 48
   ·have h48' : (c.toNat : Int) = 48 := by omega
    have hc48 : (c = 48) = True := eq_true (UInt8.toNat_inj.1 h48)
    have hs0 : (s = []) = True := eq_true (hw h48)
    (refine Fun.of_body Tryz.func245 rfl (by simp) fun Γ hn => ?_); simp only [entry, ziC, ziN, maC, maN, oA, Tryz.ntmps245]
    repeat' (first
  | ((first | refine zag ?_ | refine zak ?_ | refine zah ?_ | refine zai ?_ | refine zaA ?_ | fail); simp [h1', h3', h48', hc48, hs0])
  | (refine zar ?_; simp only [zao])
  | (refine CallP.fE (hsp) (by first | rfl | fail) (by first | simp [h1', h3', h48', hc48, hs0] <;> rfl | fail) ?_; (try simp [h1', h3', h48', hc48, hs0]))
  | fail)
    refine zbT (α := { i : Nat // i ≤ (c :: s).length }) [0, 30] (fun i => [(4, .u (.int .i64 (zbq ((c :: s).take i.1)))), (31, .u (.int .i64 i.1))]) (fun i => (c :: s).length - i.1) ⟨0, by omega⟩ ?_ ?_
    ·exact (Wk.cut rfl (by simp [hn, St.lp]) (by simp [wkO, St.lp, zaa, getK, Ob.under, D.under, zad, zae, zbq]) (by simp [wkU, St.lp, zal, zaa, getK, D.under, zbq]) (by simp [wkE, St.lp, zal, zaa, getK, zbq] <;> (try (intros; simp_all; done)) <;> (try (intros; omega)) <;> (try grind)))
    rintro ⟨i, hi⟩
    simp [St.lp, St.only, zal, zaa, getK]
    rcases hx : (c :: s)[i]? with _ | a
    ·have hge : (c :: s).length ≤ i := by simpa using hx
     obtain rfl : i = (c :: s).length := by omega
     rw [List.take_length]
     have hge2 : ¬ ((c :: s).length : Int) < s.length + 1 := by simp
     by_cases hb : 1099511627776 < zbq (c :: s)
     ·repeat' (first
  | ((first | refine zag ?_ | refine zak ?_ | refine zah ?_ | refine zai ?_ | fail); simp [hb, hge2])
  | (refine zau ?_; simp only [zao])
  | (refine za6 ?_; simp [zao])
  | fail)
      (refine EndOK.val (.inr rfl) ?_; simp [zaI, zaf, zaw, Tryz.results245])
      try simp [hb]
     ·repeat' (first
  | ((first | refine zag ?_ | refine zak ?_ | refine zah ?_ | refine zai ?_ | fail); simp [hb, hge2])
  | ((first | refine zau ?_ | refine zar ?_ | fail); simp only [zao])
  | (refine za6 ?_; simp [zao])
  | fail)
      (refine EndOK.val (.inr rfl) ?_; simp [zaI, zaf, zaw, Tryz.results245])
      try simp [hb]
    ·have hlt : i < (c :: s).length := (lGE.1 hx).1
     have hlt2 : (i : Int) < s.length + 1 := by simp at hlt; omega
     have hd := hall a (List.mem_of_getElem? hx)
     simp only [zbv, Bool.and_eq_true, decide_eq_true_eq] at hd
     have hv := hval i hi
     have hv2 := hval (i + 1) hlt
     have hsn : zbq ((c :: s).take (i + 1)) = 10 * zbq ((c :: s).take i) + ((a.toNat : Int) - 48) := by
      rw [List.take_succ, hx]; exact zeW _ _
     generalize zbq ((c :: s).take i) = dv at hv hsn
     have hsn2 := hsn.symm
     repeat' (first
  | ((first | refine zag ?_ | refine zak ?_ | fail); simp [hx, hlt2, hsn2])
  | (refine ⟨by omega, ?_⟩)
  | ((first | refine zah ?_ | refine zat ?_ | fail); simp [hx, hlt2, hsn2])
  | (refine zar ?_; simp only [zao])
  | fail)
     refine LoopW.next ⟨i + 1, hlt⟩ (by simp at hlt; simp; omega) ?_
     exact (Wk.cut rfl (by simp [hn, St.lp]) (by simp [wkO, St.lp, zaa, getK, Ob.under, D.under, zad, zae, hsn]) (by simp [wkU, St.lp, zal, zaa, getK, D.under, hsn]) (by simp [wkE, St.lp, zal, zaa, getK, hsn] <;> (try (intros; simp_all; done)) <;> (try (intros; omega)) <;> (try grind)))
   ·(refine Fun.of_body Tryz.func245 rfl (by simp) fun Γ hn => ?_); simp only [entry, ziC, ziN, maC, maN, oA, Tryz.ntmps245]
    repeat' (first
  | ((first | refine zag ?_ | refine zak ?_ | fail); simp [h1', h3', h48])
  | (refine ⟨by omega, ?_⟩)
  | ((first | refine zah ?_ | refine zai ?_ | refine zaA ?_ | fail); simp [h1', h3', h48])
  | (refine zar ?_; simp only [zao])
  | (intro hc <;> (try (exfalso; omega)))
  | (refine CallP.fE (hsp) (by first | rfl | fail) (by first | simp [h1', h3', h48] <;> rfl | fail) ?_; (try simp [h1', h3', h48]))
  | fail)
    refine zbT (α := { i : Nat // i ≤ (c :: s).length }) [0, 30] (fun i => [(4, .u (.int .i64 (zbq ((c :: s).take i.1)))), (31, .u (.int .i64 i.1))]) (fun i => (c :: s).length - i.1) ⟨0, by omega⟩ ?_ ?_
    ·exact (Wk.cut rfl (by simp [hn, St.lp]) (by simp [wkO, St.lp, zaa, getK, Ob.under, D.under, zad, zae, zbq]) (by simp [wkU, St.lp, zal, zaa, getK, D.under, zbq]) (by simp [wkE, St.lp, zal, zaa, getK, zbq] <;> (try (intros; simp_all; done)) <;> (try (intros; omega)) <;> (try grind)))
    rintro ⟨i, hi⟩
    simp [St.lp, St.only, zal, zaa, getK]
    rcases hx : (c :: s)[i]? with _ | a
    ·have hge : (c :: s).length ≤ i := by simpa using hx
     obtain rfl : i = (c :: s).length := by omega
     rw [List.take_length]
     have hge2 : ¬ ((c :: s).length : Int) < s.length + 1 := by simp
     by_cases hb : 1099511627776 < zbq (c :: s)
     ·repeat' (first
  | ((first | refine zag ?_ | refine zak ?_ | refine zah ?_ | refine zai ?_ | fail); simp [hb, hge2])
  | (refine zau ?_; simp only [zao])
  | (refine za6 ?_; simp [zao])
  | fail)
      (refine EndOK.val (.inr rfl) ?_; simp [zaI, zaf, zaw, Tryz.results245])
      try simp [hb]
     ·repeat' (first
  | ((first | refine zag ?_ | refine zak ?_ | refine zah ?_ | refine zai ?_ | fail); simp [hb, hge2])
  | ((first | refine zau ?_ | refine zar ?_ | fail); simp only [zao])
  | (refine za6 ?_; simp [zao])
  | fail)
      (refine EndOK.val (.inr rfl) ?_; simp [zaI, zaf, zaw, Tryz.results245])
      try simp [hb]
    ·have hlt : i < (c :: s).length := (lGE.1 hx).1
     have hlt2 : (i : Int) < s.length + 1 := by simp at hlt; omega
     have hd := hall a (List.mem_of_getElem? hx)
     simp only [zbv, Bool.and_eq_true, decide_eq_true_eq] at hd
     have hv := hval i hi
     have hv2 := hval (i + 1) hlt
     have hsn : zbq ((c :: s).take (i + 1)) = 10 * zbq ((c :: s).take i) + ((a.toNat : Int) - 48) := by
      rw [List.take_succ, hx]; exact zeW _ _
     generalize zbq ((c :: s).take i) = dv at hv hsn
     have hsn2 := hsn.symm
     repeat' (first
  | ((first | refine zag ?_ | refine zak ?_ | fail); simp [hx, hlt2, hsn2])
  | (refine ⟨by omega, ?_⟩)
  | ((first | refine zah ?_ | refine zat ?_ | fail); simp [hx, hlt2, hsn2])
  | (refine zar ?_; simp only [zao])
  | fail)
     refine LoopW.next ⟨i + 1, hlt⟩ (by simp at hlt; simp; omega) ?_
     exact (Wk.cut rfl (by simp [hn, St.lp]) (by simp [wkO, St.lp, zaa, getK, Ob.under, D.under, zad, zae, hsn]) (by simp [wkU, St.lp, zal, zaa, getK, D.under, hsn]) (by simp [wkE, St.lp, zal, zaa, getK, hsn] <;> (try (intros; simp_all; done)) <;> (try (intros; omega)) <;> (try grind)))
  exact hloop h2'
theorem zkJ (s p : List UInt8) : Fun Tryz.prog 282 [.u (.str s), .u (.str p)] (· = .u (.bool (p.isPrefixOf s))) := by
 by_cases hl : p.length ≤ s.length
 ·have hl2 : (p.length : Int) ≤ s.length := by omega
  by_cases he : s.take p.length = p
  ·have hp : p.isPrefixOf s = true := List.isPrefixOf_iff_prefix.2 (List.prefix_iff_eq_take.2 he.symm)
   (refine Fun.of_body Tryz.func282 rfl (by simp) fun Γ hn => ?_); simp only [entry, ziC, ziN, maC, maN, oA, Tryz.ntmps282]
   repeat' (first
  | ((first | refine zag ?_ | refine zak ?_ | refine zah ?_ | fail); simp [hl, hl2, he])
  | (refine zau ?_; simp only [zao])
  | fail)
   all_goals
    (refine EndOK.val (.inr rfl) ?_; simp [zaI, zaf, zaw, Tryz.results282])
   all_goals first | (rw [hp]; done) | exact List.isPrefixOf_iff_prefix.1 hp | (simp [hp]; done) | rfl
  ·have hp : p.isPrefixOf s = false := by
    cases h : p.isPrefixOf s with
    | false => rfl
    | true => exact absurd (List.prefix_iff_eq_take.1 (List.isPrefixOf_iff_prefix.1 h)).symm he
   (refine Fun.of_body Tryz.func282 rfl (by simp) fun Γ hn => ?_); simp only [entry, ziC, ziN, maC, maN, oA, Tryz.ntmps282]
   repeat' (first
  | ((first | refine zag ?_ | refine zak ?_ | refine zah ?_ | fail); simp [hl, hl2, he])
  | (refine zau ?_; simp only [zao])
  | fail)
   all_goals
    (refine EndOK.val (.inr rfl) ?_; simp [zaI, zaf, zaw, Tryz.results282])
   all_goals first | (rw [hp]; done) | exact List.isPrefixOf_iff_prefix.1 hp | (simp [hp]; done) | rfl
 ·have hl2 : ¬ (p.length : Int) ≤ s.length := by omega
  have hp : p.isPrefixOf s = false := by
   cases h : p.isPrefixOf s with
   | false => rfl
   | true => exact absurd (List.isPrefixOf_iff_prefix.1 h).length_le hl
  (refine Fun.of_body Tryz.func282 rfl (by simp) fun Γ hn => ?_); simp only [entry, ziC, ziN, maC, maN, oA, Tryz.ntmps282]
  repeat' (first
  | ((first | refine zag ?_ | refine zak ?_ | refine zah ?_ | fail); simp [hl, hl2])
  | (refine zau ?_; simp only [zao])
  | fail)
  all_goals
   (refine EndOK.val (.inr rfl) ?_; simp [zaI, zaf, zaw, Tryz.results282])
  all_goals first | (rw [hp]; done) | exact List.isPrefixOf_iff_prefix.1 hp | (simp [hp]; done) | rfl
theorem zl1 (s p : List UInt8) : Fun Tryz.prog 246 [.u (.str s), .u (.str p)] (· = .u (.bool (p.isPrefixOf s))) := by
 have h := zkJ s p
 (refine Fun.of_body Tryz.func246 rfl (by simp) fun Γ hn => ?_); simp only [entry, ziC, ziN, maC, maN, oA, Tryz.ntmps246]
 repeat' (first
  | ((first | refine zag ?_ | refine zak ?_ | refine zah ?_ | fail); simp)
  | (refine zau ?_; simp only [zao])
  | (refine CallP.fE (h) (by first | rfl | fail) (by first | (simp; done) | (simp; rfl) | fail) ?_; (try simp))
  | fail)
 (refine EndOK.val (.inr rfl) ?_; simp [zaI, zaf, zaw, Tryz.results246])
@[local simp] theorem zrD : zoa 1 = .u (.row (signsL.map .str) 0) := by
 simp [zoa, globs, signsL, uOf]
theorem hsl : signsL.length = 11 := rfl
theorem zo6 (s : List UInt8) (hs : s ≠ []) (hl : s.length ≤ 1000000) : Fun Tryz.prog 199 [.u (.str s)] (· = nextD s) := by
 obtain ⟨c, r, rfl⟩ : ∃ c r, s = c :: r := by cases s with | nil => exact absurd rfl hs | cons c r => exact ⟨c, r, rfl⟩
 have h1 := zd9 c
 have h2 := zeX c
 have h3 := zfE (c :: r) hl 244 zde (fun c _ => zns c) (by simp)
 have h4 := zfE (c :: r) hl 222 zbv (fun c _ => zeX c) (by simp)
 have h5 := zld ((c :: r).take (zcI zde (c :: r)))
 have h6 := zl7 ((c :: r).take (zcI zbv (c :: r))) (by have := zdO zbv (c :: r); rw [List.length_take]; omega)
 have l1 : (zcI zde (c :: r) : Int) ≤ r.length + 1 := by have := zdO zde (c :: r); simp at this; omega
 have l2 : (zcI zbv (c :: r) : Int) ≤ r.length + 1 := by have := zdO zbv (c :: r); simp at this; omega
 have l1' : zcI zde (c :: r) ≤ r.length + 1 := by omega
 have l2' : zcI zbv (c :: r) ≤ r.length + 1 := by omega
 unfold nextD zhN
 cases c1 : zdj c with
 | true =>
  rw [c1] at h1
  cases c3 : zjk ((c :: r).take (zcI zde (c :: r))) with
  | true =>
   rw [c3] at h5
   (refine Fun.of_body Tryz.func199 rfl (by simp) fun Γ hn => ?_); simp only [entry, ziC, ziN, maC, maN, oA, Tryz.ntmps199]
   repeat' (first
  | ((first | refine zag ?_ | refine zak ?_ | refine zah ?_ | refine zai ?_ | fail); simp [l1, l1'])
  | ((first | refine zau ?_ | refine zar ?_ | fail); simp only [zao])
  | (refine CallP.fE (h1) (by first | rfl | fail) (by first | simp [l1, l1'] <;> rfl | fail) ?_; (try simp [l1, l1']))
  | (refine CallP.fE (h3) (by first | rfl | fail) (by first | simp [l1, l1'] <;> rfl | fail) ?_; (try simp [l1, l1']))
  | (refine CallP.fE (h5) (by first | rfl | fail) (by first | simp [l1, l1'] <;> rfl | fail) ?_; (try simp [l1, l1']))
  | fail)
   (refine EndOK.val (.inr rfl) ?_; simp [zaI, zaf, zaw, Tryz.results199])
   simp [c1, c3]
  | false =>
   rw [c3] at h5
   (refine Fun.of_body Tryz.func199 rfl (by simp) fun Γ hn => ?_); simp only [entry, ziC, ziN, maC, maN, oA, Tryz.ntmps199]
   repeat' (first
  | ((first | refine zag ?_ | refine zak ?_ | refine zah ?_ | refine zai ?_ | fail); simp [l1, l1'])
  | (refine zau ?_; simp only [zao])
  | (refine CallP.fE (h1) (by first | rfl | fail) (by first | simp [l1, l1'] <;> rfl | fail) ?_; (try simp [l1, l1']))
  | (refine CallP.fE (h3) (by first | rfl | fail) (by first | simp [l1, l1'] <;> rfl | fail) ?_; (try simp [l1, l1']))
  | (refine CallP.fE (h5) (by first | rfl | fail) (by first | simp [l1, l1'] <;> rfl | fail) ?_; (try simp [l1, l1']))
  | fail)
   (refine EndOK.val (.inr rfl) ?_; simp [zaI, zaf, zaw, Tryz.results199])
   simp [c1, c3]
 | false =>
  rw [c1] at h1
  cases c2 : zbv c with
  | true =>
   rw [c2] at h2
   cases c3 : zf7 ((c :: r).take (zcI zbv (c :: r))) with
   | none =>
    rw [c3] at h6
    (refine Fun.of_body Tryz.func199 rfl (by simp) fun Γ hn => ?_); simp only [entry, ziC, ziN, maC, maN, oA, Tryz.ntmps199]
    repeat' (first
  | ((first | refine zag ?_ | refine zak ?_ | refine zah ?_ | refine zai ?_ | fail); simp [l2, l2'])
  | (refine zau ?_; simp only [zao])
  | (refine CallP.fE (h1) (by first | rfl | fail) (by first | simp [l2, l2'] <;> rfl | fail) ?_; (try simp [l2, l2']))
  | (refine CallP.fE (h2) (by first | rfl | fail) (by first | simp [l2, l2'] <;> rfl | fail) ?_; (try simp [l2, l2']))
  | (refine CallP.fE (h4) (by first | rfl | fail) (by first | simp [l2, l2'] <;> rfl | fail) ?_; (try simp [l2, l2']))
  | (refine CallP.fE (h6) (by first | rfl | fail) (by first | simp [l2, l2'] <;> rfl | fail) ?_; (try simp [l2, l2']))
  | fail)
    (refine EndOK.val (.inr rfl) ?_; simp [zaI, zaf, zaw, Tryz.results199])
    simp [c1, c2, c3]
   | some n =>
    rw [c3] at h6
    (refine Fun.of_body Tryz.func199 rfl (by simp) fun Γ hn => ?_); simp only [entry, ziC, ziN, maC, maN, oA, Tryz.ntmps199]
    repeat' (first
  | ((first | refine zag ?_ | refine zak ?_ | refine zah ?_ | refine zai ?_ | fail); simp [l2, l2'])
  | ((first | refine zau ?_ | refine zar ?_ | fail); simp only [zao])
  | (refine CallP.fE (h1) (by first | rfl | fail) (by first | simp [l2, l2'] <;> rfl | fail) ?_; (try simp [l2, l2']))
  | (refine CallP.fE (h2) (by first | rfl | fail) (by first | simp [l2, l2'] <;> rfl | fail) ?_; (try simp [l2, l2']))
  | (refine CallP.fE (h4) (by first | rfl | fail) (by first | simp [l2, l2'] <;> rfl | fail) ?_; (try simp [l2, l2']))
  | (refine CallP.fE (h6) (by first | rfl | fail) (by first | simp [l2, l2'] <;> rfl | fail) ?_; (try simp [l2, l2']))
  | fail)
    (refine EndOK.val (.inr rfl) ?_; simp [zaI, zaf, zaw, Tryz.results199])
    simp [c1, c2, c3]
  | false =>
   rw [c2] at h2
   (refine Fun.of_body Tryz.func199 rfl (by simp) fun Γ hn => ?_); simp only [entry, ziC, ziN, maC, maN, oA, Tryz.ntmps199]
   repeat' (first
  | ((first | refine zag ?_ | refine zak ?_ | refine zah ?_ | refine zai ?_ | refine zaA ?_ | fail); simp [hsl, List.take_of_length_le])
  | (refine zar ?_; simp only [zao])
  | (refine CallP.fE (h1) (by first | rfl | fail) (by first | simp [hsl, List.take_of_length_le] <;> rfl | fail) ?_; (try simp [hsl, List.take_of_length_le]))
  | (refine CallP.fE (h2) (by first | rfl | fail) (by first | simp [hsl, List.take_of_length_le] <;> rfl | fail) ?_; (try simp [hsl, List.take_of_length_le]))
  | fail)
   refine zbT (α := { i : Nat // i ≤ 11 ∧ ∀ x ∈ signsL.take i, x.isPrefixOf (c :: r) = false }) [0, 2, 3, 43] (fun i => [(44, .u (.int .i64 i.1))]) (fun i => 11 - i.1) ⟨0, by omega, by simp⟩ ?_ ?_
   ·exact (Wk.cut rfl (by simp [hn, St.lp]) (by simp [wkO, St.lp, zaa, getK, Ob.under, D.under, zad, zae]) (by simp [wkU, St.lp, zal, zaa, getK, D.under]) (by simp [wkE, St.lp, zal, zaa, getK] <;> (try (intros; simp_all; done)) <;> (try (intros; omega)) <;> (try grind)))
   rintro ⟨i, hi, hb⟩
   simp [St.lp, St.only, zal, zaa, getK]
   rcases hx : signsL[i]? with _ | x
   ·have hge : signsL.length ≤ i := by simpa using hx
    obtain rfl : i = 11 := by rw [hsl] at hge; omega
    have hnone : signsL.find? (fun x => x.isPrefixOf (c :: r)) = none := List.find?_eq_none.2 fun x hx => by
     rw [hb x (by rw [List.take_of_length_le (by rw [hsl]; omega)]; exact hx)]; simp
    repeat' (first
  | ((first | refine zag ?_ | refine zak ?_ | refine zah ?_ | fail); simp)
  | (refine zau ?_; simp only [zao])
  | (refine za6 ?_; simp [zao])
  | fail)
    (refine EndOK.val (.inr rfl) ?_; simp [zaI, zaf, zaw, Tryz.results199])
    simp [c1, c2, hnone]
   ·have hlt : i < 11 := by have := (lGE.1 hx).1; rw [hsl] at this; exact this
    have hlt2 : (i : Int) < 11 := by omega
    have hp := zl1 (c :: r) x
    by_cases hpx : x.isPrefixOf (c :: r) = true
    ·have hfind : signsL.find? (fun x => x.isPrefixOf (c :: r)) = some x := by
      have e : signsL = signsL.take i ++ x :: signsL.drop (i + 1) := by
       obtain ⟨h5, h6⟩ := lGE.1 hx
       rw [← h6, List.getElem_cons_drop, List.take_append_drop]
      rw [e, List.find?_append, List.find?_eq_none.2 (fun y hy => by rw [hb y hy]; simp), List.find?_cons, hpx]
      rfl
     rw [hpx] at hp
     repeat' (first
  | ((first | refine zag ?_ | refine zak ?_ | refine zah ?_ | refine zai ?_ | fail); simp [hx, hsl, hlt2])
  | ((first | refine zau ?_ | refine zar ?_ | fail); simp only [zao])
  | (refine CallP.fE (hp) (by first | rfl | fail) (by first | simp [hx, hsl, hlt2] <;> rfl | fail) ?_; (try simp [hx, hsl, hlt2]))
  | fail)
     (refine EndOK.val (.inr rfl) ?_; simp [zaI, zaf, zaw, Tryz.results199])
     simp [c1, c2, hfind]
    ·rw [Bool.eq_false_iff.2 hpx] at hp
     repeat' (first
  | ((first | refine zag ?_ | refine zak ?_ | fail); simp [hx, hsl, hlt2])
  | (refine ⟨by omega, ?_⟩)
  | ((first | refine zah ?_ | refine zai ?_ | refine zat ?_ | fail); simp [hx, hsl, hlt2])
  | (refine zar ?_; simp only [zao])
  | (refine CallP.fE (hp) (by first | rfl | fail) (by first | simp [hx, hsl, hlt2] <;> rfl | fail) ?_; (try simp [hx, hsl, hlt2]))
  | fail)
     refine LoopW.next ⟨i + 1, by omega, fun y hy => ?_⟩ (by simp; omega) ?_
     ·rw [List.take_succ, hx] at hy
      rcases List.mem_append.1 hy with h | h
      ·exact hb y h
      ·simp at h; subst h; exact Bool.eq_false_iff.2 hpx
     ·exact (Wk.cut rfl (by simp [hn, St.lp]) (by simp [wkO, St.lp, zaa, getK, Ob.under, D.under, zad, zae]) (by simp [wkU, St.lp, zal, zaa, getK, D.under]) (by simp [wkE, St.lp, zal, zaa, getK] <;> (try (intros; simp_all; done)) <;> (try (intros; omega)) <;> (try grind)))
end Go.Proofs.YtepiegcjnaohjaaGreatDoor
namespace Go.Proofs.YtepiegcjnaohjaaGreatDoor
open Go Go.VL
/-- The tokens of a string from a place on. -/
def znF : Nat → List UInt8 → Nat → Except (Nat × Int) (List Tok)
 | 0, _, _ => .ok []
 | f + 1, s, p =>
  match (s.drop (p + zcI zcc (s.drop p))) with
  | [] => .ok [⟨0, [], 0, ((p + zcI zcc (s.drop p) : Nat) : Int)⟩]
  | c :: r => match zhN (c :: r) with
   | .error e => .error (p + zcI zcc (s.drop p), e)
   | .ok t => match znF f s (p + zcI zcc (s.drop p) + t.text.length) with
    | .error x => .error x
    | .ok l => .ok ({ t with pos := ((p + zcI zcc (s.drop p) : Nat) : Int) } :: l)
def zmM (s : List UInt8) : Except (Nat × Int) (List Tok) := if 2000 < s.length then .error (0, 6) else znF (s.length + 1) s 0
def zih : Except (Nat × Int) (List Tok) → D
 | .ok l => .tup [.u (.sl (l.map fun t => [.int .i64 t.kind, .str t.text, .int .i64 t.n, .int .i64 t.pos])), .u (.int .i64 0), .u (.int .i64 0)]
 | .error (p, e) => .tup [.u (.sl []), .u (.int .i64 p), .u (.int .i64 e)]
def zl0 (acc : List Tok) : Except (Nat × Int) (List Tok) → Except (Nat × Int) (List Tok)
 | .ok l => .ok (acc ++ l)
 | .error x => .error x
theorem znb (x) : zl0 [] x = x := by cases x <;> simp [zl0]
theorem zjt {p : UInt8 → Bool} {c : UInt8} {r : List UInt8} (h : p c = true) : 0 < zcI p (c :: r) := by
 unfold zcI; rw [List.takeWhile_cons, if_pos h]; simp
theorem zf9 {s : List UInt8} {t : Tok} (h : zhN s = .ok t) : 0 < t.text.length ∧ t.text.length ≤ s.length := by
 unfold zhN at h
 split at h
 ·cases h
 ·rename_i c r
  by_cases c1 : zdj c = true
  ·rw [if_pos c1] at h
   split at h
   ·cases h
    have h1 := zjt (p := zde) (c := c) (r := r) (by simp [zde, c1])
    have h2 := zdO zde (c :: r)
    simp only [List.length_take]
    omega
   ·cases h
  ·rw [if_neg c1] at h
   by_cases c2 : zbv c = true
   ·rw [if_pos c2] at h
    split at h
    ·cases h
     have h1 := zjt (p := zbv) (c := c) (r := r) c2
     have h2 := zdO zbv (c :: r)
     simp only [List.length_take]
     omega
    ·cases h
   ·rw [if_neg c2] at h
    split at h
    ·rename_i x hx
     cases h
     have h1 := List.find?_some hx
     have h2 := List.mem_of_find?_eq_some hx
     refine ⟨?_, (List.isPrefixOf_iff_prefix.1 h1).length_le⟩
     simp only [signsL, List.mem_cons, List.not_mem_nil, or_false] at h2
     rcases h2 with h | h | h | h | h | h | h | h | h | h | h <;> subst h <;> simp
    ·cases h
def ziL (l : List Tok) : List (List D) := l.map fun t => [.u (.int .i64 t.kind), .u (.str t.text), .u (.int .i64 t.n), .u (.int .i64 t.pos)]
theorem zcP (l : List Tok) : (ziL l).length = l.length := by simp [ziL]
theorem zjq (l : List Tok) : rowsD (l.map fun t => [U.int .i64 t.kind, .str t.text, .int .i64 t.n, .int .i64 t.pos]) = ziL l := by simp [rowsD, ziL, Function.comp_def]
theorem zlg (l : List Tok) : zcO (ziL l) = some (l.map fun t => [U.int .i64 t.kind, .str t.text, .int .i64 t.n, .int .i64 t.pos]) := by rw [← zjq]; simp
theorem zg9 (l) : zaT (ziL l) = True := by rw [← zjq]; simp
theorem zf1 (n : Nat) (l) : (∀ x ∈ ziL l, ∀ y ∈ x, D.under n y = true) ↔ True := by
 refine ⟨fun _ => trivial, fun _ x hx y hy => ?_⟩
 obtain ⟨b, _, rfl⟩ := List.mem_map.1 hx
 simp at hy
 rcases hy with rfl | rfl | rfl | rfl <;> simp [D.under]
end Go.Proofs.YtepiegcjnaohjaaGreatDoor
namespace Go.Proofs.YtepiegcjnaohjaaGreatDoor
open Go Go.VL
abbrev zm0 (l : List Tok) : U := .sl (l.map fun t => [.int .i64 t.kind, .str t.text, .int .i64 t.n, .int .i64 t.pos])
abbrev pOb (l : List Tok) (p : Nat) : Ob := .box [.u (zm0 l), .u (.int .i64 p)]
abbrev zqj (l : List Tok) (p : Nat) : U := .row [zm0 l, .int .i64 p] 0
/-- Tokens as Lex makes them: the end comes last, and nowhere else. -/
structure TokOK (l : List Tok) : Prop where
 fin : ∀ (i : Nat) (t : Tok), l[i]? = some t → t.kind ≠ 0 → i + 1 < l.length
 len : l.length ≤ 1000000
def isB (l : List Tok) (p : Nat) (w : List UInt8) : Bool := match l[p]? with | some t => decide (t.kind ≠ 0) && decide (t.text = w) | none => false
theorem zbm {l : List Tok} {p : Nat} {w : List UInt8} (hl : TokOK l) (h : isB l p w = true) : p + 1 < l.length := by
 unfold isB at h
 split at h
 ·rename_i t ht
  simp only [Bool.and_eq_true, decide_eq_true_eq] at h
  exact hl.fin p t ht h.1
 ·cases h
end Go.Proofs.YtepiegcjnaohjaaGreatDoor
namespace Go.Proofs.YtepiegcjnaohjaaGreatDoor
open Go Go.VL
open Df (Con)
def zk5 (b : By) : List Con := if zcW b = true then [⟨2, 0, b.period - 1⟩, ⟨0, 2, 1 - b.period⟩, ⟨1, 2, 1 - b.wait⟩, ⟨2, 1, b.wait - 1⟩, ⟨0, 1, 0⟩, ⟨3, 2, b.grace⟩, ⟨2, 3, -b.grace⟩, ⟨4, 2, b.period⟩, ⟨2, 4, -b.period⟩, ⟨3, 4, 0⟩] else []
def zo8 (n : Int) (c : Con) : Int := max (max n (c.A + 1)) (c.B + 1)
def zhO (l : List Con) : Int := l.foldl zo8 0
theorem zif {l : List Con} {i : Nat} {c : Con} (h : l[i]? = some c) : zhO (l.take (i + 1)) = zo8 (zhO (l.take i)) c := by
 obtain ⟨hi, rfl⟩ := lGE.1 h
 rw [List.take_succ_eq_append_getElem hi, zhO, List.foldl_append]; rfl
theorem zhf {l : List Con} (h : ∀ c ∈ l, 0 ≤ c.A ∧ c.A ≤ 4 ∧ 0 ≤ c.B ∧ c.B ≤ 4) : ∀ i, i ≤ l.length → 0 ≤ zhO (l.take i) ∧ zhO (l.take i) ≤ 5
 | 0, _ => by simp [zhO]
 | i + 1, hi => by
  have ih := zhf h i (by omega)
  have hx : l[i]? = some l[i] := List.getElem?_eq_getElem (by omega)
  have hc := h _ (List.getElem_mem (show i < l.length by omega))
  rw [zif hx, zo8]
  omega
theorem zpR (b : By) : ∀ c ∈ zk5 b, 0 ≤ c.A ∧ c.A ≤ 4 ∧ 0 ≤ c.B ∧ c.B ≤ 4 := by
 intro c hc
 unfold zk5 at hc
 split at hc
 ·simp only [List.mem_cons, List.mem_nil_iff, or_false] at hc
  rcases hc with rfl | rfl | rfl | rfl | rfl | rfl | rfl | rfl | rfl | rfl <;> simp
 ·cases hc
theorem zq3 (b : By) : (zk5 b).length ≤ 10 := by unfold zk5; split <;> simp
theorem zpS {b : By} (h : zcW b = true) : zhO (zk5 b) = 5 := by unfold zk5; rw [if_pos h]; rfl
end Go.Proofs.YtepiegcjnaohjaaGreatDoor
namespace Go.Proofs.YtepiegcjnaohjaaGreatDoor
open Go Go.VL
def zkR (l : List Lw) : List (List D) := l.map fun x => [.u (.int .i64 x.mark), .u (.int .i64 x.base), .u (.str x.text)]
theorem zdi (l : List Lw) : (zkR l).length = l.length := by simp [zkR]
theorem zjU (l : List Lw) : rowsD (l.map fun x => [U.int .i64 x.mark, .int .i64 x.base, .str x.text]) = zkR l := by simp [rowsD, zkR, Function.comp_def]
theorem zpk (l : List Lw) : zcO (zkR l) = some (l.map fun x => [U.int .i64 x.mark, .int .i64 x.base, .str x.text]) := by rw [← zjU]; simp
theorem zd3 (l) : zaT (zkR l) = True := by rw [← zjU]; simp
theorem zdA (n : Nat) (l) : (∀ x ∈ zkR l, ∀ y ∈ x, D.under n y = true) ↔ True := by
 refine ⟨fun _ => trivial, fun _ x hx y hy => ?_⟩
 obtain ⟨b, _, rfl⟩ := List.mem_map.1 hx
 simp at hy
 rcases hy with rfl | rfl | rfl <;> simp [D.under]
theorem znR (l : List Lw) : zii 3 (zkR l) := fun r hr => by obtain ⟨t, _, rfl⟩ := List.mem_map.1 hr; rfl
theorem znQ (l : List Lw) (x : Lw) : zkR l ++ [[.u (.int .i64 x.mark), .u (.int .i64 x.base), .u (.str x.text)]] = zkR (l ++ [x]) := by simp [zkR]
def zkW (l : List Lw) (n : Int) : Bool := decide ((l.length : Int) ≤ n) && l.all fun x => decide (x.text.length ≤ 500)
theorem zog {l : List Lw} {n : Int} (h : zkW l n = true) : (l.length : Int) ≤ n ∧ ∀ x ∈ l, x.text.length ≤ 500 := by
 simp only [zkW, Bool.and_eq_true, decide_eq_true_eq, List.all_eq_true] at h
 exact h
end Go.Proofs.YtepiegcjnaohjaaGreatDoor
namespace Go.Proofs.YtepiegcjnaohjaaGreatDoor.Df
open Go Go.VL
attribute [local simp] HS zc7 zb5 evPure opd uOf zaG St.put St.at getK binD binI binS binB nilD aggD zgO zhJ lookD lookR zcE Go.VL.nextD zcG zhP zhK zf0 zb4 mkV zbl zbf zbe zbd zc4 za9 zbt zbG mapEff zdk zfz Key.kk shiftI arith unD convD zdN loadD cellsAt fieldAddrD fieldD indexAddrD indexD sliceD cutD lenD minmaxD nilCheckD buildD fillD zb1 zdf ze2 setAll zcU zeF zcv zhx zcs St.add zaM zbP rowsOf zdH zcJ zam zac zaa zbi zcL zaK entry zbE zbI valD zb8 zcf zgD zdr zds zb2 zbK zaz zaX zbz delAll effD St.effS zc5 zbg zaZ zc6 zbh za1 zch za0 zaS zci zcV zbL zcb zbs zb9 zca zaR mkD zbk zbC zbQ zaz zcu D.ids Op.operands Call.operands zbu makeIfD makeFuncD typeAssertD zhI zdy zdz zhH zcF IntKind.bits zcO List.take_of_length_le List.range_succ
attribute [local irreducible] V G H HD HD2 HD4 zoK RetX zao Eff CallP CallV EndOK Fun Ret FinOK LoopI LoopW EndW
theorem ziV (m : Nat) (l : List Con) (bg : Nat → Bool) (begin_ : List Int) (hm : m ≤ 200) (hl : OkC m l) (hll : l.length ≤ 2000) (hbg : ∀ x, x ∈ begin_ ↔ 0 ≤ x ∧ x < m ∧ bg x.toNat = true) (hbl : begin_.length ≤ 1000) :
  Ret Tryz.prog 78 [.u (consU l), .u (.int .i64 m), .u (ints begin_)] [] 0 fun d obs nx' => d = .ptr 5 0 ∧ nx' = 6 ∧
   obs = [(5, .box [.u (consU l), .u (.sl ((List.range m).map fun v => [ints (zgA (zcy l v))])), .vec 1 m, .vec 3 m, .vec 4 m]), (1, .vec 3 1 (zbn (lst m (GS.zero bg).val))), (3, .vec 3 1 (zbn (lst m (zhL (-1) (GS.zero bg))))), (4, .vec 4 1 (zdg (bst m (GS.zero bg).kn)))] := by
 simp only [consU, ints]
 skip
 (refine Ret.of_bodyW Tryz.func78 rfl (by simp) fun Γ hn => ?_); simp only [entry, ziC, ziN, maC, maN, oA, Tryz.ntmps78]
 have k0 : zbn [-1] = [[D.u (.int .i64 (-1))]] := rfl
 repeat' (first
  | (refine zoL [(2, .vec 3 1 (zbn [-1]))] ⟨[], some (.vec 3 1 (zbn (List.replicate m (-1)))), .vec m⟩ (.vec 3 1 (zbn (List.replicate m (-1)))) (fun nx' h' => zo1 2 nx' m (-1) (by omega)) ⟨rfl, rfl⟩ (by rfl) (by first | assumption | (simp; done) | fail) (by rfl) (by first | (simp [k0, zan, zaa, getK, zab, zac, zam, zaR, del]; done) | fail) (by first | (simp [k0, zan, D.under, Ob.under, zad]; done) | fail) (by simp) ?_; (try simp [k0, zan]))
  | ((first | refine zag ?_ | refine zbX rfl ?_ | refine zdt rfl ?_ | refine zak ?_ | fail); simp [k0, zan])
  | (refine ⟨by omega, ?_⟩)
  | (refine zah ?_; simp [k0, zan])
  | (refine zcw (hC _ (by kernel_rfl)) (hk _ ?_); clear hC hk C k; simp only [zao])
  | (refine zbU rfl (by kernel_rfl) (by first | (simp [hn]; done) | (simp [hn]; omega) | fail) fun C k hC hk => ?_; simp [k0, zan])
  | (refine zaA ?_; simp [k0, zan])
  | fail)
 refine zmK { n := 64, env := [(26, .u (.int .i64 0)), (25, .u (.int .i64 l.length)), (24, .u (.sl (l.map fun c => [.int .i64 c.A, .int .i64 c.B, .int .i64 c.N]))), (7, .ptr 5 0), (2, .u (.sl (begin_.map fun n => [.int .i64 n])))], obs := (0, .vec 26 1 (List.replicate m [.u .nil])) :: [(5, .box [.u (.sl (l.map fun c => [.int .i64 c.A, .int .i64 c.B, .int .i64 c.N])), .vec 0 m, .vec 1 m, .vec 3 m, .vec 4 m]), (1, .vec 3 1 (zbn (lst m (GS.zero bg).val))), (3, .vec 3 1 (zbn (lst m (zhL (-1) (GS.zero bg))))), (4, .vec 4 1 (zdg (List.replicate m false)))], next := 6 } ?_ ?_
 ·have q1 := zoQ m bg
  have q2 : List.replicate m (-1 : Int) = lst m (zhL (-1) (GS.zero bg)) := by rw [znx]; rfl
  have q3 := zpr m 0
  have q4 := zor m false
  have q5 : (∀ x ∈ List.replicate m [D.u .nil], ∀ y ∈ x, D.under 6 y = true) ↔ True := ⟨fun _ => trivial, fun _ x hx y hy => by rw [List.eq_of_mem_replicate hx] at hy; simp at hy; subst hy; simp [D.under]⟩
  exact (Wk.cut rfl (by simp [hn, St.lp]) (by simp [wkO, zgF, zcd, zce, zcA, zet, St.lp, zaa, getK, Ob.under, D.under, zad, zae, zaq, zan, zav, zap, q1, q2, q3, q4, q5]) (by simp [wkU, St.lp, zal, zaa, getK, D.under, zaq, zan, zav, zap, q1, q2, q3, q4, q5]) (by simp [wkE, St.lp, zal, zaa, getK, zaq, zan, zav, zap, q1, q2, q3, q4, q5] <;> (try (intros; simp_all; done)) <;> (try (intros; omega)) <;> (try grind)))
 refine zmK _ (Wk.zra 0 26 3 1 m (by decide) [(5, _), (1, _), (3, _), (4, _)] (by simp) (by simp) rfl) ?_
 simp only [znL l m, zod l m, List.cons_append, List.nil_append]
 rw [show 6 + m = m + 6 from Nat.add_comm 6 m]
 refine zcg (α := { k : Nat // k ≤ l.length }) [2, 7, 24, 25] (fun k => [(26, .u (.int .i64 k.1))])
  (fun k => (0, .vec 26 1 (idF 6 (zjT l m k.1))) :: (5, .box [.u (.sl (l.map fun c => [.int .i64 c.A, .int .i64 c.B, .int .i64 c.N])), .vec 0 m, .vec 1 m, .vec 3 m, .vec 4 m]) :: (1, .vec 3 1 (zbn (lst m (GS.zero bg).val))) :: (3, .vec 3 1 (zbn (lst m (zhL (-1) (GS.zero bg))))) :: (4, .vec 4 1 (zdg (List.replicate m false))) :: fam 6 (zly l m k.1)) (m + 6) (fun k => l.length - k.1) ⟨0, by omega⟩ ?_ ?_
 ·exact (Wk.cut rfl (by simp [hn, St.lp]) (by simp [wkO, zgF, zcd, zce, zcA, zet, St.lp, zaa, getK, Ob.under, D.under, zad, zae, zaq, zan, zav, zap, zfO, zfN, ze5, zgd]) (by simp [wkU, St.lp, zal, zaa, getK, D.under, zaq, zan, zav, zap, zfO, zfN, ze5, zgd]) (by simp [wkE, St.lp, zal, zaa, getK, zaq, zan, zav, zap, zfO, zfN, ze5, zgd] <;> (try (intros; simp_all; done)) <;> (try (intros; omega)) <;> (try grind)))
 rintro ⟨k, hk⟩
 simp [St.lp, St.only, zal, zaa, getK]
 rcases hx : l[k]? with _ | c
 ·have hge : l.length ≤ k := by simpa using hx
  obtain rfl : k = l.length := by omega
  repeat' (first
  | ((first | refine zag ?_ | refine zak ?_ | refine zah ?_ | refine zaA ?_ | fail); simp [hx])
  | (refine za6 ?_; simp [zao])
  | fail)
  have hus : (((List.range m).map fun v => (zgA (zcy l v)).map fun z => [U.int .i64 z]).map fun r => Ob.vec 3 1 (rowsD r)) = zly l m l.length := by
   simp only [zly, List.map_map]
   refine List.map_congr_left fun v _ => ?_
   simp only [Function.comp]
   rw [← List.map_map, zjX, zip]
  have hls : (((List.range m).map fun v => (zgA (zcy l v)).map fun z => [U.int .i64 z]).map (·.length)) = zjT l m l.length := by
   simp only [zjT, List.map_map]
   refine List.map_congr_left fun v _ => ?_
   simp [Function.comp, zip]
  refine zmK _ (Wk.zrb 0 6 26 3 1 ((List.range m).map fun v => (zgA (zcy l v)).map fun z => [U.int .i64 z]) [(5, _), (1, _), (3, _), (4, _)] (by omega) (by simp [zqk]) (by simp) (by rw [hus, hls]; rfl)) ?_
  refine zmK _ (Wk.frz 0 [5] (us := ((List.range m).map fun v => (zgA (zcy l v)).map fun z => [U.int .i64 z]).map fun r => [U.sl r]) rfl (by simp)) ?_
  simp [St.frz, St.frzS, frzS, fv, zaQ, frzObS, del]
  have hfu : List.map ((fun r => [U.sl r]) ∘ fun v => List.map ((fun z => [U.int .i64 z]) ∘ Int.ofNat) (zcy l v)) (List.range m) = (List.range m).map fun v => [ints (zgA (zcy l v))] := by simp [ints, Function.comp_def]
  rw [hfu]
  have hk0 : List.replicate m false = bst m fun x => decide ((x : Int) ∈ begin_.take 0) := by rw [zq7]; simp
  refine zcg (α := { k : Nat // k ≤ begin_.length }) [7, 50, 51] (fun k => [(52, .u (.int .i64 k.1))])
   (fun k => [(5, .box [.u (.sl (l.map fun c => [.int .i64 c.A, .int .i64 c.B, .int .i64 c.N])), .u (.sl ((List.range m).map fun v => [ints (zgA (zcy l v))])), .vec 1 m, .vec 3 m, .vec 4 m]), (1, .vec 3 1 (zbn (lst m (GS.zero bg).val))), (3, .vec 3 1 (zbn (lst m (zhL (-1) (GS.zero bg))))), (4, .vec 4 1 (zdg (bst m fun x => decide ((x : Int) ∈ begin_.take k.1))))]) 6 (fun k => begin_.length - k.1) ⟨0, by omega⟩ ?_ ?_
  ·exact (Wk.cut rfl (by simp [hn, St.lp]) (by simp [wkO, zgF, zcd, zce, zcA, zet, St.lp, zaa, getK, Ob.under, D.under, zad, zae, zaq, zan, zav, zap, hk0]) (by simp [wkU, St.lp, zal, zaa, getK, D.under, zaq, zan, zav, zap, hk0]) (by simp [wkE, St.lp, zal, zaa, getK, zaq, zan, zav, zap, hk0] <;> (try (intros; simp_all; done)) <;> (try (intros; omega)) <;> (try grind)))
  rintro ⟨k, hk⟩
  simp [St.lp, St.only, zal, zaa, getK]
  rcases hv : begin_[k]? with _ | v
  ·have hge : begin_.length ≤ k := by simpa using hv
   have hfin : bst m (fun x => decide ((x : Int) ∈ begin_.take k)) = bst m (GS.zero bg).kn := by
    rw [List.take_of_length_le hge]
    unfold bst
    refine List.map_congr_left fun x hx' => ?_
    have hxm := List.mem_range.1 hx'
    have := hbg (x : Int)
    simp only [Int.toNat_natCast] at this
    rw [Bool.eq_iff_iff, decide_eq_true_iff, this]
    simp only [GS.zero]
    exact ⟨fun h => h.2.2, fun h => ⟨by omega, by omega, h⟩⟩
   rw [hfin]
   repeat' (first
  | ((first | refine zag ?_ | refine zak ?_ | fail); simp [hv])
  | (refine ⟨by omega, ?_⟩)
  | (refine zah ?_; simp [hv])
  | (refine zau ?_; simp only [zao])
  | (refine za6 ?_; simp [zao])
  | (intro hc <;> (try (exfalso; omega)))
  | fail)
   refine EndW.here ?_
   (first | (refine EndOK.fin (.inr rfl) ?_) | (refine EndOK.fin (.inl rfl) ?_)); simp [zaI, zaf, Tryz.results78]
   refine FinOK.here (by simp) ⟨rfl, rfl, ?_⟩
   simp [ints]
  ·have hlt : k < begin_.length := (lGE.1 hv).1
   have htk := zdB hv
   obtain ⟨hv0, hvm, _⟩ := (hbg v).1 (List.mem_of_getElem? hv)
   obtain ⟨V, rfl⟩ := Int.eq_ofNat_of_zero_le hv0
   have hVm : V < m := by omega
   have hst : bst m (fun j => decide (j = V) || decide ((j : Int) ∈ begin_.take k)) = bst m fun j => decide ((j : Int) ∈ begin_.take (k + 1)) := by
    unfold bst
    refine List.map_congr_left fun x _ => ?_
    rw [htk, Bool.eq_iff_iff]
    simp only [Bool.or_eq_true, decide_eq_true_eq, List.mem_append, List.mem_singleton]
    constructor
    ·rintro (h | h)
     ·exact .inr (by omega)
     ·exact .inl h
    ·rintro (h | h)
     ·exact .inr h
     ·exact .inl (by omega)
   repeat' (first
  | ((first | refine zag ?_ | refine zak ?_ | fail); simp [hv, hVm, zbb, zaV, zbJ, zbO, zbw, zcK, hst])
  | (refine ⟨by omega, ?_⟩)
  | ((first | refine zah ?_ | refine zat ?_ | fail); simp [hv, hVm, zbb, zaV, zbJ, zbO, zbw, zcK, hst])
  | (refine zar ?_; simp only [zao])
  | (refine ⟨?_, by omega⟩)
  | (intro hc <;> (try (exfalso; omega)))
  | fail)
   refine LoopW.next ⟨k + 1, by omega⟩ (by simp; omega) ?_
   exact (Wk.cut rfl (by simp [hn, St.lp]) (by simp [wkO, zgF, zcd, zce, zcA, zet, St.lp, zaa, getK, Ob.under, D.under, zad, zae, zaq, zan, zav, zap]) (by simp [wkU, St.lp, zal, zaa, getK, D.under, zaq, zan, zav, zap]) (by simp [wkE, St.lp, zal, zaa, getK, zaq, zan, zav, zap] <;> (try (intros; simp_all; done)) <;> (try (intros; omega)) <;> (try grind)))
 ·have hlt : k < l.length := (lGE.1 hx).1
  have hcl := hl c (List.mem_of_getElem? hx)
  have hls := zpf (m := m) hx
  have hfs := zpB (m := m) hx
  have hlen := zmu l k c.b
  obtain ⟨A, B, N⟩ := c
  simp only at hcl
  obtain ⟨ha0, han, hb0, hbn, hN1, hN2⟩ := hcl
  obtain ⟨b, rfl⟩ := Int.eq_ofNat_of_zero_le hb0
  simp only [Con.b, Int.toNat_natCast] at hls hfs hlen
  have hbm : b < m := by omega
  have hbne : ¬ b = m := by omega
  have hbne2 : ¬ m = b := by omega
  have hbne3 : ¬ b = m + 1 := by omega
  have hbne4 : ¬ b = m + 2 := by omega
  have hbne5 : ¬ m + 1 = b := by omega
  have hbne6 : ¬ m + 2 = b := by omega
  have hrow : ∀ h : b < (idF 6 (zjT l m k)).length, (idF 6 (zjT l m k))[b]'h = [D.vec (b + 6) (zcN l k b).length] := fun h => by
   have := zi1 6 (zjT l m k) b _ (zpg l hbm)
   rw [List.getElem?_eq_getElem h] at this
   exact Option.some.inj this
  have hget : getK (fam 6 (zly l m k)) (b + 6) = some (.vec 3 1 (zbn (zgA (zcN l k b)))) := by rw [zeS, zpC l hbm]
  have hil := zge 6 (zjT l m k)
  rw [ze5] at hil
  have q7 : zbn (zgA (zcN l k b)) ++ [[D.u (.int .i64 (k : Int))]] = zbn (zgA (zcN l k b ++ [k])) := by simp [zbn]
  have q8 := zdJ (zgA (zcN l k b))
  skip
  repeat' (first
  | ((first | refine zag ?_ | refine zbX rfl ?_ | refine zdt rfl ?_ | refine zak ?_ | fail); simp [hx, hrow, hget, hil, hbm, hbne, hbne2, hbne3, hbne4, hbne5, hbne6, zaE, q7, q8, List.length_map, zcA, zfc])
  | (refine ⟨by omega, ?_⟩)
  | (refine zah ?_; simp [hx, hrow, hget, hil, hbm, hbne, hbne2, hbne3, hbne4, hbne5, hbne6, zaE, q7, q8, List.length_map, zcA, zfc])
  | (refine zcw (hC _ (zdh [0, 5, m + 6, b + 6] (m + 7) (by simp <;> omega) (by simp <;> omega) (by apply Exists.intro; apply And.intro; (focus (repeat' (first | exact KF.nil | exact KL.nil | apply KF.cons | apply KL.cons 0 rfl | apply KL.cons 1 rfl | apply KL.cons 2 rfl | apply KL.cons 3 rfl | apply KL.cons 4 rfl | apply KL.cons 5 rfl | apply KL.cons 6 rfl | apply KL.cons 7 rfl | apply KL.cons 8 rfl | apply KL.cons 9 rfl))); kernel_rfl))) (hk _ ?_); clear hC hk C k; simp only [zao])
  | (refine zbU rfl (by kernel_rfl) (by first | (simp [hn]; done) | (simp [hn]; omega) | fail) fun C k hC hk => ?_; simp [hx, hrow, hget, hil, hbm, hbne, hbne2, hbne3, hbne4, hbne5, hbne6, zaE, q7, q8, List.length_map, zcA, zfc])
  | (refine zat ?_; simp [hx, hrow, hget, hil, hbm, hbne, hbne2, hbne3, hbne4, hbne5, hbne6, zaE, q7, q8, List.length_map, zcA, zfc])
  | (refine zar ?_; simp only [zao])
  | (refine ⟨?_, by omega⟩)
  | (intro hc <;> (try (exfalso; omega)))
  | fail)
  refine LoopW.next ⟨k + 1, by omega⟩ (by simp; omega) ?_
  simp only [← hls, ← hfs]
  refine Wk.zr5 0 6 (m + 6 + 1 + 1) b 26 ((zcN l k b).length + 1) (zjT l m k) _ rfl (by simp [hn]) (by simp [hn]) (by simp only; omega) (by omega) (by rw [ze5]; exact hbm) (by rw [ze5]; exact Nat.le_refl _) ?_ rfl ?_ ?_
  ·simp [zaa, zac, zam]
  ·simp [ziB, zeJ, St.lp, zal, zaa, getK, D.under, D.le, D.ren]
  ·simp only [wkR]
   refine ⟨?_, ?_, ?_, ?_, zmR (fun q hq1 hq2 => ?_) (zfN l m k) (fun o ho => ?_) (by rw [zfO]; exact Nat.le_refl _) ?_⟩
   ·simp [zeJ, zaa, zac, zam, obR, leU, D.under, D.le, D.ren]
   ·simp [zeJ, zaa, zac, zam, obR, zaq]
   ·simp [zeJ, zaa, zac, zam, obR, zaq]
   ·simp [zeJ, zaa, zac, zam, obR, zav]
   ·rw [zfO] at hq2
    have w1 : ¬ q = m + 2 := by omega
    have w2 : ¬ q = m + 1 := by omega
    have w3 : ¬ q = m := by omega
    simp [zaa, zac, zam, w1, w2, w3, hq1, zeS]
   ·simp at ho
    subst ho
    exact ⟨_, _, _, rfl, zaq _⟩
   ·simp [zaa, zac, zam]
set_option maxHeartbeats 16000000 in
theorem zqE (m : Nat) (l : List Con) (bg : Nat → Bool) (begin_ : List Int) (gF : GS) (ret : Int) (hm : m ≤ 200) (hl : OkC m l) (hll : l.length ≤ 2000) (hK : (m + 1) * (m * l.length) ≤ 3000000) (hbl : begin_.length ≤ m)
  (hbg : ∀ x, x ∈ begin_ ↔ 0 ≤ x ∧ x < m ∧ bg x.toNat = true) (hF : zoO zgz l (m + 1) (GS.zero bg) begin_ = (gF, ret)) :
  Ret Tryz.prog 80 [.ptr 5 0, .u (ints begin_)] (zqi l m (GS.zero bg)) 6 fun d obs nx' => d = .u (.int .i64 ret) ∧ obs = zqi l m gF ∧ nx' = 6 := by
 have hcl := zom begin_ (by omega)
 simp only [zqi, consU, ints] at hcl ⊢
 (refine Ret.of_bodyW Tryz.func80 rfl (by simp) fun Γ hn => ?_); simp only [entry, ziC, ziN, maC, maN, oA, Tryz.ntmps80]
 repeat' (first
  | ((first | refine zag ?_ | refine zak ?_ | fail); simp [zaE, za7])
  | (refine ⟨by omega, ?_⟩)
  | ((first | refine zah ?_ | refine zaA ?_ | fail); simp [zaE, za7])
  | (refine CallP.fE (hcl) (by first | rfl | fail) (by first | simp [zaE, za7] <;> rfl | fail) ?_; (try simp [zaE, za7]))
  | fail)
 refine zcg (α := { s : Nat × GS × List Int // s.1 ≤ m + 1 ∧ s.2.2.length ≤ m ∧ (s.1 = m + 1 → s.2.2 ≠ []) ∧ (∃ t L, t ≤ s.1 * (m * l.length) ∧ PI m l bg s.1 s.2.2 t s.2.1 L) ∧ zoO zgz l (m + 1 - s.1) s.2.1 s.2.2 = (gF, ret) }) [0, 20]
  (fun s => [(5, .u (.sl (s.1.2.2.map fun n => [U.int .i64 n]))), (21, .u (.int .i64 s.1.1))])
  (fun s => [(5, .box [.u (.sl (l.map fun c => [.int .i64 c.A, .int .i64 c.B, .int .i64 c.N])), .u (.sl ((List.range m).map fun v => [.sl ((zgA (zcy l v)).map fun n => [.int .i64 n])])), .vec 1 m, .vec 3 m, .vec 4 m]), (1, .vec 3 1 (zbn (lst m s.1.2.1.val))), (3, .vec 3 1 (zbn (lst m (zhL (-1) s.1.2.1)))), (4, .vec 4 1 (zdg (bst m s.1.2.1.kn)))]) 6 (fun s => m + 1 - s.1.1)
  ⟨(0, GS.zero bg, begin_), by omega, hbl, by simp, ⟨0, fun _ => 0, by simp, PI.zero hl hbg⟩, hF⟩ ?_ ?_
 ·exact (Wk.cut rfl (by simp [hn, St.lp]) (by simp [wkO, St.lp, zaa, getK, Ob.under, D.under, zad, zae, zaq, zan, zav, zap]) (by simp [wkU, St.lp, zal, zaa, getK, D.under, zaq, zan, zav, zap]) (by simp [wkE, St.lp, zal, zaa, getK, zaq, zan, zav, zap] <;> (try (intros; simp_all; done)) <;> (try (intros; omega)) <;> (try grind)))
 rintro ⟨⟨r, g, todo⟩, hr, htl, hrt, ⟨t, L, ht, hPI⟩, hfin⟩
 simp only at hr htl hrt ht hPI hfin
 simp [St.lp, St.only, zal, zaa, getK]
 by_cases hrm : r = m + 1
 ·subst hrm
  have hne := hrt rfl
  rw [Nat.sub_self, zoO] at hfin
  cases todo with
  | nil => exact absurd rfl hne
  | cons v todo =>
   simp only [List.headD_cons, Prod.mk.injEq] at hfin
   obtain ⟨rfl, rfl⟩ := hfin
   repeat' (first
  | ((first | refine zag ?_ | refine zak ?_ | refine zah ?_ | fail); simp)
  | (refine zau ?_; simp only [zao])
  | (refine za6 ?_; simp [zao])
  | fail)
   refine EndW.here ?_
   (first | (refine EndOK.fin (.inr rfl) ?_) | (refine EndOK.fin (.inl rfl) ?_)); simp [zaI, zaf, Tryz.results80]
   exact FinOK.here (by simp) ⟨rfl, rfl, rfl⟩
 have hrlt : (r : Int) < (m : Int) + 1 := by omega
 obtain ⟨f, hf⟩ : ∃ f, m + 1 - r = f + 1 := ⟨m - r, by omega⟩
 rw [hf, zoO] at hfin
 repeat' (first
  | ((first | refine zag ?_ | refine zak ?_ | refine zah ?_ | refine zaA ?_ | fail); simp [hrlt])
  | (refine zar ?_; simp only [zao])
  | fail)
 refine zmK _ (Wk.own 6 3 1 (by decide) rfl) ?_
 simp [St.own]
 have hk2 : r * (m * l.length) + m * l.length ≤ (m + 1) * (m * l.length) := by rw [← Nat.succ_mul]; exact Nat.mul_le_mul_right _ (by omega)
 have hk3 : todo.length * l.length ≤ m * l.length := Nat.mul_le_mul_right _ htl
 obtain ⟨S2, hS2⟩ : ∃ S2 : Nat → GS × List Int, S2 = fun p => (todo.take p).foldl (zh1 l) (g, []) := ⟨_, rfl⟩
 have hS20 : S2 0 = (g, []) := by rw [hS2]; rfl
 refine zcg (α := { p : Nat // p ≤ todo.length }) [0, 5, 20, 21, 23, 24] (fun p => [(6, .vec 6 (S2 p.1).2.length), (25, .u (.int .i64 p.1))])
  (fun p => [(6, .vec 3 1 (zbn (S2 p.1).2)), (5, .box [.u (.sl (l.map fun c => [.int .i64 c.A, .int .i64 c.B, .int .i64 c.N])), .u (.sl ((List.range m).map fun v => [.sl ((zgA (zcy l v)).map fun n => [.int .i64 n])])), .vec 1 m, .vec 3 m, .vec 4 m]), (1, .vec 3 1 (zbn (lst m (S2 p.1).1.val))), (3, .vec 3 1 (zbn (lst m (zhL (-1) (S2 p.1).1)))), (4, .vec 4 1 (zdg (bst m (S2 p.1).1.kn)))]) 7 (fun p => todo.length - p.1) ⟨0, by omega⟩ ?_ ?_
 ·exact (Wk.cut rfl (by simp [hn, St.lp]) (by simp [wkO, St.lp, zaa, getK, Ob.under, D.under, zad, zae, zaq, zan, zav, zap, hS20, zbn]) (by simp [wkU, St.lp, zal, zaa, getK, D.under, zaq, zan, zav, zap, hS20, zbn]) (by simp [wkE, St.lp, zal, zaa, getK, zaq, zan, zav, zap, hS20, zbn] <;> (try (intros; simp_all; done)) <;> (try (intros; omega)) <;> (try grind)))
 rintro ⟨p, hp⟩
 simp [St.lp, St.only, zal, zaa, getK]
 obtain ⟨L2, u, hPM⟩ := hPI.take hl p hp
 have hpl : p * l.length ≤ todo.length * l.length := Nat.mul_le_mul_right _ hp
 have hS2p : (todo.take p).foldl (zh1 l) (g, []) = S2 p := by rw [hS2]
 rw [hS2p] at hPM
 rcases hv : todo[p]? with _ | v
 ·have hge : todo.length ≤ p := by simpa using hv
  obtain rfl : p = todo.length := by omega
  have hrd : S2 todo.length = zey l g todo := by rw [hS2]; simp only [List.take_length]; rfl
  rw [hrd] at hPM ⊢
  rw [List.drop_length] at hPM
  rcases hq : zey l g todo with ⟨g', nx⟩
  rw [hq] at hfin hPM
  simp only at hfin
  have hnl := hPM.len
  simp only at hnl
  by_cases hnx : nx = []
  ·subst hnx
   simp only [if_true, Prod.mk.injEq] at hfin
   obtain ⟨rfl, rfl⟩ := hfin
   repeat' (first
  | ((first | refine zag ?_ | refine zak ?_ | refine zah ?_ | refine zai ?_ | fail); simp [hv])
  | (refine zau ?_; simp only [zao])
  | (refine za6 ?_; simp [zao])
  | fail)
   refine EndW.wk { n := _, env := [(4, .u (.int .i64 (-1)))], obs := [(5, .box [.u (.sl (l.map fun c => [.int .i64 c.A, .int .i64 c.B, .int .i64 c.N])), .u (.sl ((List.range m).map fun v => [.sl ((zgA (zcy l v)).map fun n => [.int .i64 n])])), .vec 1 m, .vec 3 m, .vec 4 m]), (1, .vec 3 1 (zbn (lst m g'.val))), (3, .vec 3 1 (zbn (lst m (zhL (-1) g')))), (4, .vec 4 1 (zdg (bst m g'.kn)))], next := 6 } (Wk.cut rfl (by simp [hn, St.lp]) (by simp [wkO, St.lp, zaa, getK, Ob.under, D.under, zad, zae, zaq, zan, zav, zap]) (by simp [wkU, St.lp, zal, zaa, getK, D.under, zaq, zan, zav, zap]) (by simp [wkE, St.lp, zal, zaa, getK, zaq, zan, zav, zap] <;> (try (intros; simp_all; done)) <;> (try (intros; omega)) <;> (try grind))) (EndW.here ?_)
   (first | (refine EndOK.fin (.inr rfl) ?_) | (refine EndOK.fin (.inl rfl) ?_)); simp [zaI, zaf, Tryz.results80]
   exact FinOK.here (by simp) ⟨rfl, rfl, rfl⟩
  ·rw [if_neg hnx] at hfin
   have hsl : (zfh nx).length = nx.length := by simp [zfh]
   have hnz : ¬ nx.length = 0 := fun h => hnx (List.eq_nil_of_length_eq_zero h)
   have hsr := zoY 3 6 7 (by omega) nx (by omega)
   have hcr := zk0 3 6 7 (by omega) (zfh nx) (by omega)
   rw [hsl] at hcr
   have hcle : (Lib.compact (zfh nx)).length ≤ nx.length := by rw [← hsl]; exact Lib.compact_length_le _
   have hcsl := zkg (zfh nx)
   rw [hsl] at hcsl
   have htake : (zk2 (zfh nx)).take (Lib.compact (zfh nx)).length = zgz nx := by rw [zk2, List.take_left' rfl]; rfl
   repeat' (first
  | ((first | refine zag ?_ | refine zak ?_ | fail); simp [hv, hnz, hnx, zaE, hcsl, hcle, del, zab])
  | (refine ⟨by omega, ?_⟩)
  | ((first | refine zah ?_ | refine zai ?_ | refine zat ?_ | fail); simp [hv, hnz, hnx, zaE, hcsl, hcle, del, zab])
  | (refine zar ?_; simp only [zao])
  | (refine za6 ?_; simp [zao])
  | (refine CallP.ztf (hsr) (by simp [getK]) (by rfl) (by first | assumption | simp) (by rfl) (by simp) ?_; rintro d o n' hn' ⟨rfl, rfl, rfl⟩; (try simp at hn'); (try simp [hv, hnz, hnx, zaE, hcsl, hcle, del, zab]))
  | (refine CallP.ztf (hcr) (by simp [getK]) (by rfl) (by first | assumption | simp) (by rfl) (by simp) ?_; rintro d o n' hn' ⟨rfl, rfl, rfl⟩; (try simp at hn'); (try simp [hv, hnz, hnx, zaE, hcsl, hcle, del, zab]))
  | fail)
   have hmt : ((zk2 (zfh nx)).map fun z => [U.int .i64 z]).take (Lib.compact (zfh nx)).length = (zgz nx).map fun z => [U.int .i64 z] := by rw [← List.map_take, htake]
   have hnn : zgz nx ≠ [] := fun e => by
    obtain ⟨x, hx⟩ := List.exists_mem_of_ne_nil _ hnx
    have := (zd6 nx x).2 hx
    rw [e] at this
    cases this
   refine LoopW.next ⟨(r + 1, g', zgz nx), by simp only; omega, zjP nx fun x hx => let ⟨a, b, _⟩ := hPM.nx x hx; ⟨a, b⟩, fun _ => hnn, ⟨t + todo.length * l.length, L2, by simp only; rw [Nat.succ_mul]; omega, hPM.fin fun x => zd6 nx x⟩, by simp only; rw [show m + 1 - (r + 1) = f by omega]; exact hfin⟩ (by simp; omega) ?_
   refine (Wk.frz (e := 3) (sz := 1) 6 [] (us := (zk2 (zfh nx)).map fun z => [U.int .i64 z]) (by simp [zaa]) (zdS _)).trans ?_
   simp only [St.frz, St.frzS, frzS, fv, zaQ, frzObS, List.map_cons, List.map_nil]
   exact (Wk.cut rfl (by simp [hn, St.lp]) (by simp [wkO, St.lp, zaa, getK, Ob.under, D.under, zad, zae, zaq, zan, zav, zap, hcsl, hcle, hmt]) (by simp [wkU, St.lp, zal, zaa, getK, D.under, zaq, zan, zav, zap, hcsl, hcle, hmt]) (by simp [wkE, St.lp, zal, zaa, getK, zaq, zan, zav, zap, hcsl, hcle, hmt] <;> (try (intros; simp_all; done)) <;> (try (intros; omega)) <;> (try grind)))
 ·have hlt : p < todo.length := (lGE.1 hv).1
  have hdr : todo.drop p = v :: todo.drop (p + 1) := by
   rw [List.drop_eq_getElem_cons hlt]
   congr 1
   exact (lGE.1 hv).2
  rw [hdr] at hPM
  have hvm := List.mem_of_getElem? hv
  obtain ⟨hv0, hvn, hvk, hvL⟩ := hPM.all v hvm
  obtain ⟨V, rfl⟩ := Int.eq_ofNat_of_zero_le hv0
  simp only [Int.toNat_natCast] at hvk hvL
  have hVm : V < m := by omega
  have hPN := hPM.next hl
  rw [Int.toNat_natCast] at hPN
  have hfl := zj4 l V
  obtain ⟨S3, hS3⟩ : ∃ S3 : Nat → GS × List Int, S3 = fun q => ((zcy l V).take q).foldl (zlY l) (S2 p) := ⟨_, rfl⟩
  have hS30 : S3 0 = S2 p := by rw [hS3]; rfl
  have hS31 : S3 (zcy l V).length = S2 (p + 1) := by
   rw [hS3, hS2]
   simp only [List.take_length]
   rw [zdB hv, List.foldl_append]
   rfl
  repeat' (first
  | ((first | refine zag ?_ | refine zak ?_ | refine zah ?_ | refine zaA ?_ | fail); simp [hv, hVm])
  | (refine zar ?_; simp only [zao])
  | (refine ⟨?_, by omega⟩)
  | (intro hc <;> (try (exfalso; omega)))
  | fail)
  refine zcg (α := { q : Nat // q ≤ (zcy l V).length }) [0, 5, 8, 20, 21, 23, 24, 25, 35, 36] (fun q => [(6, .vec 6 (S3 q.1).2.length), (37, .u (.int .i64 q.1))])
   (fun q => [(6, .vec 3 1 (zbn (S3 q.1).2)), (5, .box [.u (.sl (l.map fun c => [.int .i64 c.A, .int .i64 c.B, .int .i64 c.N])), .u (.sl ((List.range m).map fun v => [.sl ((zgA (zcy l v)).map fun n => [.int .i64 n])])), .vec 1 m, .vec 3 m, .vec 4 m]), (1, .vec 3 1 (zbn (lst m (S3 q.1).1.val))), (3, .vec 3 1 (zbn (lst m (zhL (-1) (S3 q.1).1)))), (4, .vec 4 1 (zdg (bst m (S3 q.1).1.kn)))]) 7 (fun q => (zcy l V).length - q.1) ⟨0, by omega⟩ ?_ ?_
  ·exact (Wk.cut rfl (by simp [hn, St.lp]) (by simp [wkO, St.lp, zaa, getK, Ob.under, D.under, zad, zae, zaq, zan, zav, zap, hS30]) (by simp [wkU, St.lp, zal, zaa, getK, D.under, zaq, zan, zav, zap, hS30]) (by simp [wkE, St.lp, zal, zaa, getK, zaq, zan, zav, zap, hS30] <;> (try (intros; simp_all; done)) <;> (try (intros; omega)) <;> (try grind)))
  rintro ⟨q, hq⟩
  simp [St.lp, St.only, zal, zaa, getK]
  obtain ⟨L3, hPQ⟩ := hPN.take hl hvm (fun _ h => h) q hq
  have hS3q : ((zcy l V).take q).foldl (zlY l) (S2 p) = S3 q := by rw [hS3]
  rw [hS3q] at hPQ
  rcases hi : (zcy l V)[q]? with _ | i
  ·have hge : (zcy l V).length ≤ q := by simpa using hi
   obtain rfl : q = (zcy l V).length := by omega
   rw [hS31]
   repeat' (first
  | ((first | refine zag ?_ | refine zak ?_ | fail); simp [hi])
  | (refine ⟨by omega, ?_⟩)
  | ((first | refine zah ?_ | refine zat ?_ | fail); simp [hi])
  | (refine za6 ?_; simp [zao])
  | fail)
   refine LoopW.next ⟨p + 1, by omega⟩ (by simp; omega) ?_
   exact (Wk.cut rfl (by simp [hn, St.lp]) (by simp [wkO, St.lp, zaa, getK, Ob.under, D.under, zad, zae, zaq, zan, zav, zap]) (by simp [wkU, St.lp, zal, zaa, getK, D.under, zaq, zan, zav, zap]) (by simp [wkE, St.lp, zal, zaa, getK, zaq, zan, zav, zap] <;> (try (intros; simp_all; done)) <;> (try (intros; omega)) <;> (try grind)))
  ·have hqlt : q < (zcy l V).length := (lGE.1 hi).1
   obtain ⟨c, hci, hcb⟩ := zfJ.1 (List.mem_of_getElem? hi)
   have hS3s : S3 (q + 1) = zlY l (S3 q) i := by rw [hS3]; simp only; rw [zdB hi, List.foldl_append]; rfl
   have hbd := hPQ.bd
   have hnl := hPQ.len
   rcases hst : S3 q with ⟨G, nx⟩
   rw [hst] at hS3s hbd hnl
   simp only at hbd hnl
   have htt : t + p * l.length + q ≤ 4000000 := by omega
   have hva := hbd.small htt c.a
   have hvb := hbd.small htt V
   obtain ⟨ha0, han, hb0, hbn, hN1, hN2⟩ := hl c (List.mem_of_getElem? hci)
   have hN3 : -1099511627776 ≤ c.N ∧ c.N ≤ 1099511627776 := ⟨hN1, hN2⟩
   have hau := zqz G i c m
   have hku := zrG G i c m
   have hpu := zqA (-1) G i c m
   have hrel : zlY l (G, nx) i = if (!G.kn c.a || decide (G.val c.b + c.N < G.val c.a)) = true then (G.upd i c, nx ++ [c.A]) else (G, nx) := by unfold zlY; rw [hci]
   rw [hrel, hcb] at hS3s
   rw [hcb] at hau
   obtain ⟨A, B, N⟩ := c
   simp only [Con.a] at *
   obtain ⟨a, rfl⟩ := Int.eq_ofNat_of_zero_le ha0
   simp only [Int.toNat_natCast] at *
   have han' : a < m := by omega
   have q7 : zbn nx ++ [[D.u (.int .i64 (a : Int))]] = zbn (nx ++ [(a : Int)]) := by simp [zbn]
   have q8 := zdJ nx
   cases hka : G.kn a with
   | false =>
    simp only [hka, Bool.not_false, Bool.true_or, if_true] at hS3s
    repeat' (first
  | ((first | refine zag ?_ | refine zbX rfl ?_ | refine zdt rfl ?_ | refine zak ?_ | fail); simp [hi, hci, zaE, zaP, zcr, za7, za4, zcZ, zbb, zaV, zbJ, zbO, zbw, zcK, hka, han', hVm, hau, hku, hpu, q7, q8])
  | (refine ⟨by omega, ?_⟩)
  | ((first | refine zah ?_ | refine zai ?_ | fail); simp [hi, hci, zaE, zaP, zcr, za7, za4, zcZ, zbb, zaV, zbJ, zbO, zbw, zcK, hka, han', hVm, hau, hku, hpu, q7, q8])
  | (refine zcw (hC _ (by kernel_rfl)) (hk _ ?_); clear hC hk C k; simp only [zao])
  | (refine zbU rfl (by kernel_rfl) (by first | (simp [hn]; done) | (simp [hn]; omega) | fail) fun C k hC hk => ?_; simp [hi, hci, zaE, zaP, zcr, za7, za4, zcZ, zbb, zaV, zbJ, zbO, zbw, zcK, hka, han', hVm, hau, hku, hpu, q7, q8])
  | (refine zfZ rfl (by simp [hi, hci, zaE, zaP, zcr, za7, za4, zcZ, zbb, zaV, zbJ, zbO, zbw, zcK, hka, han', hVm, hau, hku, hpu, q7, q8]) (fun hc => ?_) (fun hc => ?_) <;> (try simp [hi, hci, zaE, zaP, zcr, za7, za4, zcZ, zbb, zaV, zbJ, zbO, zbw, zcK, hka, han', hVm, hau, hku, hpu, q7, q8] at hc) <;> (try (exfalso; omega)) <;> (try simp [hi, hci, zaE, zaP, zcr, za7, za4, zcZ, zbb, zaV, zbJ, zbO, zbw, zcK, hka, han', hVm, hau, hku, hpu, q7, q8]))
  | (refine zat ?_; simp [hi, hci, zaE, zaP, zcr, za7, za4, zcZ, zbb, zaV, zbJ, zbO, zbw, zcK, hka, han', hVm, hau, hku, hpu, q7, q8])
  | (refine zar ?_; simp only [zao])
  | (refine ⟨?_, by omega⟩)
  | (intro hc <;> (try (exfalso; omega)))
  | fail)
    refine LoopW.next ⟨q + 1, by omega⟩ (by simp; omega) ?_
    exact (Wk.zr4 (6) (9) rfl (by simp [hn]) (by simp [hn]) (by simp [zaq, zan, zav, zap, hS3s]) (by simp [ziB, zeJ, St.lp, zal, zaa, getK, zac, zam, D.under, D.le, D.ren, zaq, zan, zav, zap, hS3s] <;> (try (intros; simp_all; done)) <;> (try omega)) (by simp [wkR, zeG, zcd, zce, zcA, zet, zeJ, St.lp, zaa, getK, zac, zam, obR, leU, zbR, zaT, Ob.under, D.under, D.le, D.ren, zaq, zan, zav, zap, hS3s] <;> (try (intros; simp_all; done)) <;> (try omega)))
   | true =>
    by_cases hlt2 : G.val V + N < G.val a
    ·simp only [hka, Bool.not_true, Bool.false_or, decide_eq_true hlt2, if_true] at hS3s
     repeat' (first
  | ((first | refine zag ?_ | refine zbX rfl ?_ | refine zdt rfl ?_ | refine zgT rfl ?_ | refine zak ?_ | fail); simp [hi, hci, zaE, zaP, zcr, za7, za4, zcZ, zbb, zaV, zbJ, zbO, zbw, zcK, hka, han', hVm, hau, hku, hpu, q7, q8, hlt2])
  | (refine ⟨by omega, ?_⟩)
  | ((first | refine zah ?_ | refine zai ?_ | fail); simp [hi, hci, zaE, zaP, zcr, za7, za4, zcZ, zbb, zaV, zbJ, zbO, zbw, zcK, hka, han', hVm, hau, hku, hpu, q7, q8, hlt2])
  | (refine zcw (hC _ (by kernel_rfl)) (hk _ ?_); clear hC hk C k; simp only [zao])
  | (refine zbU rfl (by kernel_rfl) (by first | (simp [hn]; done) | (simp [hn]; omega) | fail) fun C k hC hk => ?_; simp [hi, hci, zaE, zaP, zcr, za7, za4, zcZ, zbb, zaV, zbJ, zbO, zbw, zcK, hka, han', hVm, hau, hku, hpu, q7, q8, hlt2])
  | (refine zfZ rfl (by simp [hi, hci, zaE, zaP, zcr, za7, za4, zcZ, zbb, zaV, zbJ, zbO, zbw, zcK, hka, han', hVm, hau, hku, hpu, q7, q8, hlt2]) (fun hc => ?_) (fun hc => ?_) <;> (try simp [hi, hci, zaE, zaP, zcr, za7, za4, zcZ, zbb, zaV, zbJ, zbO, zbw, zcK, hka, han', hVm, hau, hku, hpu, q7, q8, hlt2] at hc) <;> (try (exfalso; omega)) <;> (try simp [hi, hci, zaE, zaP, zcr, za7, za4, zcZ, zbb, zaV, zbJ, zbO, zbw, zcK, hka, han', hVm, hau, hku, hpu, q7, q8, hlt2]))
  | (refine zat ?_; simp [hi, hci, zaE, zaP, zcr, za7, za4, zcZ, zbb, zaV, zbJ, zbO, zbw, zcK, hka, han', hVm, hau, hku, hpu, q7, q8, hlt2])
  | (refine zar ?_; simp only [zao])
  | (refine ⟨?_, by omega⟩)
  | (intro hc <;> (try (exfalso; omega)))
  | fail)
     refine LoopW.next ⟨q + 1, by omega⟩ (by simp; omega) ?_
     exact (Wk.zr4 (6) (9) rfl (by simp [hn]) (by simp [hn]) (by simp [zaq, zan, zav, zap, hS3s]) (by simp [ziB, zeJ, St.lp, zal, zaa, getK, zac, zam, D.under, D.le, D.ren, zaq, zan, zav, zap, hS3s] <;> (try (intros; simp_all; done)) <;> (try omega)) (by simp [wkR, zeG, zcd, zce, zcA, zet, zeJ, St.lp, zaa, getK, zac, zam, obR, leU, zbR, zaT, Ob.under, D.under, D.le, D.ren, zaq, zan, zav, zap, hS3s] <;> (try (intros; simp_all; done)) <;> (try omega)))
    ·simp only [hka, Bool.not_true, Bool.false_or, decide_eq_false hlt2, Bool.false_eq_true, if_false] at hS3s
     repeat' (first
  | ((first | refine zag ?_ | refine zbX rfl ?_ | refine zgT rfl ?_ | refine zak ?_ | fail); simp [hi, hci, zaE, zaP, za7, za4, zbb, zaV, zbO, zbw, hka, han', hVm, hlt2])
  | (refine ⟨by omega, ?_⟩)
  | ((first | refine zah ?_ | refine zai ?_ | fail); simp [hi, hci, zaE, zaP, za7, za4, zbb, zaV, zbO, zbw, hka, han', hVm, hlt2])
  | (refine zcw (hC _ (by kernel_rfl)) (hk _ ?_); clear hC hk C k; simp only [zao])
  | (refine zbU rfl (by kernel_rfl) (by first | (simp [hn]; done) | (simp [hn]; omega) | fail) fun C k hC hk => ?_; simp [hi, hci, zaE, zaP, za7, za4, zbb, zaV, zbO, zbw, hka, han', hVm, hlt2])
  | (refine zfZ rfl (by simp [hi, hci, zaE, zaP, za7, za4, zbb, zaV, zbO, zbw, hka, han', hVm, hlt2]) (fun hc => ?_) (fun hc => ?_) <;> (try simp [hi, hci, zaE, zaP, za7, za4, zbb, zaV, zbO, zbw, hka, han', hVm, hlt2] at hc) <;> (try (exfalso; omega)) <;> (try simp [hi, hci, zaE, zaP, za7, za4, zbb, zaV, zbO, zbw, hka, han', hVm, hlt2]))
  | (refine zat ?_; simp [hi, hci, zaE, zaP, za7, za4, zbb, zaV, zbO, zbw, hka, han', hVm, hlt2])
  | (refine zar ?_; simp only [zao])
  | (refine ⟨?_, by omega⟩)
  | (intro hc <;> (try (exfalso; omega)))
  | fail)
     refine LoopW.next ⟨q + 1, by omega⟩ (by simp; omega) ?_
     exact (Wk.cut rfl (by simp [hn, St.lp]) (by simp [wkO, St.lp, zaa, getK, Ob.under, D.under, zad, zae, zaq, zan, zav, zap, hS3s]) (by simp [wkU, St.lp, zal, zaa, getK, D.under, zaq, zan, zav, zap, hS3s]) (by simp [wkE, St.lp, zal, zaa, getK, zaq, zan, zav, zap, hS3s] <;> (try (intros; simp_all; done)) <;> (try (intros; omega)) <;> (try grind)))
theorem zp0 (m M : Nat) (l : List Con) (bg : Nat → Bool) (g : GS) (v to k : Nat) (hm : m ≤ 200) (hl : OkC m l) (hll : l.length ≤ 2000) (hinv : Inv l bg g) (hv : v < m) (hk : 0 < k) (hkm : k ≤ m) (hal : al l g k v) (hto : it l g k v = to) (hmin : ∀ j, 0 < j → j < k → it l g j v ≠ to) :
  Ret Tryz.prog 81 [.ptr 5 0, .u (.int .i64 v), .u (.int .i64 to)] (zqi l m g) (M + 6) fun d obs nx' => d = .u (ints (pl l (-1) g k v).reverse) ∧ obs = zqi l m g ∧ nx' = M + 6 := by
 simp only [zqi, consU, ints]
 (refine Ret.of_bodyW Tryz.func81 rfl (by simp) fun Γ hn => ?_); simp only [entry, ziC, ziN, maC, maN, oA, Tryz.ntmps81]
 repeat' (first
  | ((first | refine zag ?_ | refine zak ?_ | refine zah ?_ | refine zaA ?_ | fail); simp)
  | fail)
 refine zmK _ (Wk.own 7 3 1 (by decide) rfl) ?_
 simp [St.own]
 refine zcg (α := { q : Nat // q ≤ k }) [0, 2] (fun q => [(1, .u (.int .i64 (it l g q.1 v))), (7, .vec (M + 6) q.1), (8, .u (.bool (decide (q.1 = 0))))])
  (fun q => [(M + 6, .vec 3 1 (zbn (pl l (-1) g q.1 v))), (5, .box [.u (.sl (l.map fun c => [.int .i64 c.A, .int .i64 c.B, .int .i64 c.N])), .u (.sl ((List.range m).map fun v => [.sl ((zgA (zcy l v)).map fun n => [.int .i64 n])])), .vec 1 m, .vec 3 m, .vec 4 m]), (1, .vec 3 1 (zbn (lst m g.val))), (3, .vec 3 1 (zbn (lst m (zhL (-1) g)))), (4, .vec 4 1 (zdg (bst m g.kn)))]) (M + 7) (fun q => k - q.1) ⟨0, by omega⟩ ?_ ?_
 ·exact (Wk.cut rfl (by simp [hn, St.lp]) (by simp [wkO, St.lp, zaa, getK, Ob.under, D.under, zad, zae, zaq, zan, zav, zap, it, pl, zbn]) (by simp [wkU, St.lp, zal, zaa, getK, D.under, zaq, zan, zav, zap, it, pl, zbn]) (by simp [wkE, St.lp, zal, zaa, getK, zaq, zan, zav, zap, it, pl, zbn] <;> (try (intros; simp_all; done)) <;> (try (intros; omega)) <;> (try grind)))
 rintro ⟨q, hq⟩
 simp [St.lp, St.only, zal, zaa, getK]
 have q9 := zlk l (-1) g q v
 by_cases hqk : q < k
 ·have hxi : it l g q v < m := znY hl q hv
  obtain ⟨I, c, q1, q2, q3, q4⟩ := zow (-1) hl hinv hxi (zr3 hal hqk)
  have q5 := znX l g q v
  rw [← q5] at q3
  have q6 := znd l (-1) g q v
  rw [q1] at q6
  have q7 : zbn (pl l (-1) g q v) ++ [[D.u (.int .i64 (I : Int))]] = zbn (pl l (-1) g (q + 1) v) := by rw [q6]; simp [zbn]
  have q8 := zdJ (pl l (-1) g q v)
  by_cases hq0 : q = 0
  ·subst hq0
   repeat' (first
  | ((first | refine zag ?_ | refine zbX rfl ?_ | refine zak ?_ | refine zah ?_ | refine zai ?_ | fail); simp [zaE, zaP, za7, za4, hxi, q1, q2, q3, q4, q7, q8, q9])
  | (refine zcw (hC _ (by kernel_rfl)) (hk _ ?_); clear hC hk C k; simp only [zao])
  | (refine zbU rfl (by kernel_rfl) (by first | (simp [hn]; done) | (simp [hn]; omega) | fail) fun C k hC hk => ?_; simp [zaE, zaP, za7, za4, hxi, q1, q2, q3, q4, q7, q8, q9])
  | (refine zat ?_; simp [zaE, zaP, za7, za4, hxi, q1, q2, q3, q4, q7, q8, q9])
  | (refine zar ?_; simp only [zao])
  | fail)
   refine LoopW.next ⟨0 + 1, by omega⟩ (by simp; omega) ?_
   exact (Wk.zr4 (M + 6) (M + 8) rfl (by simp [hn]) (by simp [hn]) (by simp [zaq, zan, zav, zap]) (by simp [ziB, zeJ, St.lp, zal, zaa, getK, zac, zam, D.under, D.le, D.ren, zaq, zan, zav, zap] <;> (try (intros; simp_all; done)) <;> (try omega)) (by simp [wkR, zeG, zcd, zce, zcA, zet, zeJ, St.lp, zaa, getK, zac, zam, obR, leU, zbR, zaT, Ob.under, D.under, D.le, D.ren, zaq, zan, zav, zap] <;> (try (intros; simp_all; done)) <;> (try omega)))
  ·have hne := hmin q (by omega) hqk
   have hne2 : ¬ ((it l g q v : Nat) : Int) = (to : Int) := fun e => hne (by omega)
   repeat' (first
  | ((first | refine zag ?_ | refine zbX rfl ?_ | refine zak ?_ | fail); simp [hq0, hne, hne2, zaE, zaP, za7, za4, hxi, q1, q2, q3, q4, q7, q8, q9])
  | (refine ⟨by omega, ?_⟩)
  | ((first | refine zah ?_ | refine zai ?_ | fail); simp [hq0, hne, hne2, zaE, zaP, za7, za4, hxi, q1, q2, q3, q4, q7, q8, q9])
  | (refine zcw (hC _ (by kernel_rfl)) (hk _ ?_); clear hC hk C k; simp only [zao])
  | (refine zbU rfl (by kernel_rfl) (by first | (simp [hn]; done) | (simp [hn]; omega) | fail) fun C k hC hk => ?_; simp [hq0, hne, hne2, zaE, zaP, za7, za4, hxi, q1, q2, q3, q4, q7, q8, q9])
  | (refine zat ?_; simp [hq0, hne, hne2, zaE, zaP, za7, za4, hxi, q1, q2, q3, q4, q7, q8, q9])
  | (refine zar ?_; simp only [zao])
  | fail)
   refine LoopW.next ⟨q + 1, by omega⟩ (by simp; omega) ?_
   exact (Wk.zr4 (M + 6) (M + 8) rfl (by simp [hn]) (by simp [hn]) (by simp [zaq, zan, zav, zap]) (by simp [ziB, zeJ, St.lp, zal, zaa, getK, zac, zam, D.under, D.le, D.ren, zaq, zan, zav, zap] <;> (try (intros; simp_all; done)) <;> (try omega)) (by simp [wkR, zeG, zcd, zce, zcA, zet, zeJ, St.lp, zaa, getK, zac, zam, obR, leU, zbR, zaT, Ob.under, D.under, D.le, D.ren, zaq, zan, zav, zap] <;> (try (intros; simp_all; done)) <;> (try omega)))
 obtain rfl : q = k := by omega
 have hq0 : ¬ q = 0 := by omega
 have hrr := zkC 3 (M + 6) (M + 7) (by omega) (pl l (-1) g q v) (by omega)
 rw [q9] at hrr
 rw [hto]
 repeat' (first
  | ((first | refine zag ?_ | refine zak ?_ | refine zah ?_ | refine zai ?_ | fail); simp [hq0, q9, del, zab, zaa])
  | (refine zau ?_; simp only [zao])
  | (refine za6 ?_; simp [zao])
  | (refine CallP.ztf (hrr) (by simp [getK]) (by rfl) (by first | assumption | simp) (by rfl) (by simp) ?_; rintro d o n' hn' ⟨rfl, rfl, rfl⟩; (try simp at hn'); (try simp [hq0, q9, del, zab, zaa]))
  | fail)
 refine EndW.wk _ (Wk.frz (e := 3) (sz := 1) (M + 6) [] (us := (pl l (-1) g q v).reverse.map fun z => [U.int .i64 z]) (by simp [zaa]) (zdS _)) ?_
 simp [St.frz, St.frzS, frzS, fv, zaQ, frzObS, del, q9]
 refine EndW.wk { n := _, env := [(6, .u (.sl ((pl l (-1) g q v).reverse.map fun z => [U.int .i64 z])))], obs := [(5, .box [.u (.sl (l.map fun c => [.int .i64 c.A, .int .i64 c.B, .int .i64 c.N])), .u (.sl ((List.range m).map fun v => [.sl ((zgA (zcy l v)).map fun n => [.int .i64 n])])), .vec 1 m, .vec 3 m, .vec 4 m]), (1, .vec 3 1 (zbn (lst m g.val))), (3, .vec 3 1 (zbn (lst m (zhL (-1) g)))), (4, .vec 4 1 (zdg (bst m g.kn)))], next := M + 6 } (Wk.cut rfl (by simp [hn, St.lp]) (by simp [wkO, St.lp, zaa, getK, Ob.under, D.under, zad, zae, zaq, zan, zav, zap]) (by simp [wkU, St.lp, zal, zaa, getK, D.under, zaq, zan, zav, zap]) (by simp [wkE, St.lp, zal, zaa, getK, zaq, zan, zav, zap] <;> (try (intros; simp_all; done)) <;> (try (intros; omega)) <;> (try grind))) (EndW.here ?_)
 (first | (refine EndOK.fin (.inr rfl) ?_) | (refine EndOK.fin (.inl rfl) ?_)); simp [zaI, zaf, Tryz.results81]
 exact FinOK.here (by simp) ⟨by simp, by simp, rfl⟩
end Go.Proofs.YtepiegcjnaohjaaGreatDoor.Df
